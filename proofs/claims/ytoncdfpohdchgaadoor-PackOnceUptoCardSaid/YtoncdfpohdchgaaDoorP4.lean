/- Several texts as one: Pv, Pm, Ph, Pu. -/
import Derived.Test.YtoncdfpohdchgaaDoorP2
import Derived.Test.YtoncdfpohdchgaaDoorP3
set_option linter.unusedSimpArgs false
set_option linter.unusedVariables false
/- The plain law of packs: what was written is read back; a spoilt byte, missing bytes. No condition; no program run. -/
namespace Go.Proofs.YtoncdfpohdchgaaDoor
open Go.RowKit Go.Fw Go.Pl Go.Sort
theorem wRun_cons {o : Obj} {r : List Obj} {s s' : WS} (h : wRun (o :: r) s = some s') : ¬ 1048544 < (wStep s o).out.length ∧ wRun r (wStep s o) = some s' := by
  rw [wRun] at h
  split at h
  · cases h
  · rename_i hn; exact ⟨hn, h⟩
theorem wRun_pre : ∀ (os : List Obj) (s s' : WS), wRun os s = some s' → ∃ suf, s'.out = s.out ++ suf
  | [], s, s', h => by rw [wRun] at h; injection h with h; subst h; exact ⟨[], by simp⟩
  | o :: r, s, s', h => by
    obtain ⟨x, hx⟩ := wRun_pre r _ _ (wRun_cons h).2
    exact ⟨wPiece s o ++ x, by rw [hx]; show (s.out ++ wPiece s o) ++ x = _; rw [List.append_assoc]⟩
theorem wRun_len : ∀ (os : List Obj) (s s' : WS), wRun os s = some s' → s.out.length ≤ 1048544 → s'.out.length ≤ 1048544
  | [], s, s', h, hl => by rw [wRun] at h; injection h with h; subst h; exact hl
  | o :: r, s, s', h, _ => wRun_len r _ _ (wRun_cons h).2 (by have := (wRun_cons h).1; omega)
theorem behind_up {ids r : List Dig} {d : Dig} (h : Up (ids ++ d :: r)) : behind ids d = true := by
  unfold behind
  cases hx : ids.getLast? with
  | none => rfl
  | some x => exact (List.pairwise_append.1 h).2.2 _ (List.mem_of_getLast? hx) _ (List.mem_cons_self)
theorem toldK_pos {ahead b : List UInt8} {first : Bool} {depth : Nat} (h : toldK ahead b first depth = 1) : first = false ∧ depth < 4 ∧ apB ahead (toldB ahead b first depth) = (b, 0) := by
  have hn : ¬ (first = true ∨ 4 ≤ depth) := by intro hx; unfold toldK at h; rw [if_pos hx] at h; cases h
  obtain ⟨h1, h2⟩ := not_or.1 hn
  refine ⟨by simpa using h1, by omega, ?_⟩
  have hk := h
  unfold toldK at hk
  rw [if_neg hn] at hk
  split at hk
  · cases hk
  rename_i h3
  obtain ⟨h4, _⟩ := not_or.1 h3
  have h5 : ¬ (4096 < ahead.length ∨ 4096 < b.length) := by
    intro hx; apply h4; unfold mkE; rw [if_pos hx]; decide
  obtain ⟨h6, h7⟩ := not_or.1 h5
  rw [toldB, if_neg (by rw [h]; decide), mkR, if_neg h5]
  exact apB_mk (by omega) (by omega)
theorem robjs_wr (b : List UInt8) : ∀ (os : List Obj) (s s' : WS) (ids : List Dig) (l : List (List UInt8)), wRun os s = some s' → s'.out = b → (∀ o ∈ os, shaD o.2 = o.1 ∧ o.2.length ≤ 131072) → Up (ids ++ os.map (·.1)) → (ids = [] → s.first = true) → s.depth ≤ 4 →
    robjs b os.length ids l s.ahead s.depth s.out.length = .ok (l ++ os.map (·.2), b.length)
  | [], s, s', ids, l, h, hb, _, _, _, _ => by rw [wRun] at h; injection h with h; subst h; subst hb; simp [robjs]
  | o :: r, s, s', ids, l, h, hb, hok, hup, hf, hd => by
    obtain ⟨hn, hr⟩ := wRun_cons h
    obtain ⟨suf, hsuf⟩ := wRun_pre _ _ _ hr
    obtain ⟨ho1, ho2⟩ := hok o (List.mem_cons_self)
    obtain ⟨k, hk⟩ : ∃ k, k = toldK s.ahead o.2 s.first s.depth := ⟨_, rfl⟩
    obtain ⟨t, ht⟩ : ∃ t, t = toldB s.ahead o.2 s.first s.depth := ⟨_, rfl⟩
    have hk01 := toldK_cases s.ahead o.2 s.first s.depth
    rw [← hk] at hk01
    have htl : t.length ≤ 131072 := by have := toldB_len s.ahead o.2 s.first s.depth; rw [← ht] at this; omega
    have hbe : b = s.out ++ (o.1.1 ++ (vi k ++ (textB t ++ suf))) := by
      rw [← hb, hsuf]
      show (s.out ++ wPiece s o) ++ suf = _
      rw [wPiece, ← hk, ← ht]
      simp only [List.append_assoc]
    have g1 : gdig b s.out.length = .ok (o.1, s.out.length + 32) := by
      have := (rds_dig o.1).1 s.out (vi k ++ (textB t ++ suf))
      rw [← hbe, o.1.2] at this
      exact this
    have g2 : gnum b (s.out.length + 32) = .ok (k, s.out.length + 32 + (vi k).length) := by
      have := (rds_num (n := k) (by omega)).1 (s.out ++ o.1.1) (textB t ++ suf)
      rw [List.length_append, o.1.2, List.append_assoc, ← hbe] at this
      exact this
    have g3 : gtext b (s.out.length + 32 + (vi k).length) = .ok (t, s.out.length + 32 + (vi k).length + (textB t).length) := by
      have := (rds_text (t := t) htl).1 (s.out ++ (o.1.1 ++ vi k)) suf
      rw [List.length_append, List.length_append, o.1.2, ← Nat.add_assoc] at this
      rw [show (s.out ++ (o.1.1 ++ vi k)) ++ (textB t ++ suf) = b by rw [hbe]; simp only [List.append_assoc]] at this
      exact this
    have hbh : behind ids o.1 = true := behind_up (r := r.map (·.1)) (by simpa using hup)
    have hk1 : k = 1 → s.first = false ∧ s.depth < 4 ∧ apB s.ahead t = (o.2, 0) := fun h1 => by rw [ht]; exact toldK_pos (by rw [← hk]; exact h1)
    have hkk : ¬ (1 < k ∨ (k = 1 ∧ ids = [])) := by
      rintro (h1 | ⟨h1, h2⟩)
      · omega
      · have h3 := hf h2; rw [(hk1 h1).1] at h3; cases h3
    have hdd : ¬ 4 < (s.depth + 1) * k := by
      rcases hk01 with h1 | h1
      · rw [h1]; omega
      · have := (hk1 h1).2.1; rw [h1]; omega
    have hrr : (k = 1 ∧ apB s.ahead t = (o.2, 0)) ∨ (k ≠ 1 ∧ o.2 = t) := by
      by_cases h1 : k = 1
      · exact .inl ⟨h1, (hk1 h1).2.2⟩
      · exact .inr ⟨h1, by rw [ht, toldB, if_pos (by rw [← hk]; omega)]⟩
    have hrob : robj b ids s.ahead s.depth s.out.length = .ok ((o.1, o.2, (s.depth + 1) * k), s.out.length + 32 + (vi k).length + (textB t).length) := by
      rw [robj_last g1 hbh g2 hkk hdd g3 hrr, if_neg (fun h1 => h1 ho1)]
    have hlen : s.out.length + 32 + (vi k).length + (textB t).length = (wStep s o).out.length := by
      show _ = (s.out ++ wPiece s o).length
      rw [List.length_append, wPiece, ← hk, ← ht, List.length_append, List.length_append, o.1.2]
      omega
    rw [List.length_cons, robjs_s hrob, hlen]
    have := robjs_wr b r (wStep s o) s' (ids ++ [o.1]) (l ++ [o.2]) hr hb (fun x hx => hok x (List.mem_cons_of_mem _ hx)) (by simpa using hup) (fun hx => by simp at hx) (by rcases wDepth s o with h | h; exact h; exact h.elim)
    rw [show (wStep s o).depth = (s.depth + 1) * k from by rw [hk]; rfl] at this
    rw [show (wStep s o).ahead = o.2 from rfl] at this
    rw [this]
    simp
/-- A pack as it is written. -/
theorem rdP_wr {os : List Obj} {q : List UInt8} (h : wrR os = (q, 0)) (hok : ∀ o ∈ os, shaD o.2 = o.1 ∧ o.2.length ≤ 131072) (hup : Up (os.map (·.1))) (hn : os.length ≤ 500) : rdP q = .ok (os.map (·.2)) := by
  unfold wrR at h
  cases hw : wRun os (wBegin os.length) with
  | none => rw [hw] at h; cases h
  | some s =>
  rw [hw] at h
  have hq : q = s.out ++ (shaD s.out).1 := (congrArg Prod.fst h).symm
  have hsh := (shaD s.out).2
  have hv := vi_len9 (n := os.length) (by omega)
  have hv0 := vi_pos os.length
  have hl := wRun_len _ _ _ hw (by show ([82, 80, 49] ++ vi os.length).length ≤ _; rw [List.length_append]; show 3 + _ ≤ _; omega)
  obtain ⟨suf, hsuf⟩ := wRun_pre _ _ _ hw
  have hout : s.out = [82, 80, 49] ++ (vi os.length ++ suf) := by rw [hsuf]; show ([82, 80, 49] ++ vi os.length) ++ suf = _; rw [List.append_assoc]
  have hol : 4 ≤ s.out.length := by rw [hout, List.length_append, List.length_append]; show 4 ≤ 3 + _; omega
  have hql : q.length = s.out.length + 32 := by rw [hq, List.length_append, hsh]
  have ht : q.take s.out.length = s.out := by rw [hq, List.take_left]
  have hdr : q.drop s.out.length = (shaD s.out).1 := by rw [hq, List.drop_left]
  have g0 : gnum s.out 3 = .ok (os.length, 3 + (vi os.length).length) := by
    have := (rds_num (n := os.length) (by omega)).1 [82, 80, 49] suf
    rw [← hout] at this
    exact this
  have h3 : ¬ (q.length < 3 ∨ q.take 3 ≠ [82, 80, 49]) := by
    rintro (h1 | h1)
    · omega
    · apply h1; rw [hq, hout]; rfl
  rw [rdP_5 (q := s.out.length) (by omega) h3 (by omega) (by omega) (by rw [ht, hdr]), ht]
  have := robjs_wr s.out os (wBegin os.length) s [] [] hw rfl hok (by simpa using hup) (fun _ => rfl) (Nat.zero_le _)
  refine rbody_5 g0 (by omega) (at_ := s.out.length) ?_ rfl
  have h5 : (wBegin os.length).out.length = 3 + (vi os.length).length := by show ([82, 80, 49] ++ vi os.length).length = _; rw [List.length_append]; rfl
  rw [h5] at this
  simpa [wBegin] using this
theorem wrR_bad {os : List Obj} {q : List UInt8} {e : Int} (h : (q, e) = wrR os) : e = 0 ∨ (e = 3 ∧ q = []) := by
  unfold wrR at h
  split at h
  · injection h with h1 h2; exact .inr ⟨h2, h1⟩
  · injection h with h1 h2; exact .inl h2
theorem objs_ok {l : List Ent} {xs : List (List UInt8)} (h : Holds l xs) : ∀ o ∈ objs l, shaD o.2 = o.1 ∧ o.2.length ≤ 131072 ∧ o.2 ∈ xs := by
  intro o ho
  obtain ⟨d, hd, rfl⟩ := List.mem_map.1 ho
  obtain ⟨x, hx⟩ := (names_val h.keys).1 hd
  rw [getB_val hx]
  obtain ⟨h1, h2, h3⟩ := (h.val _ _).1 hx
  exact ⟨h3, h2, h1⟩
theorem objs_up {l : List Ent} {xs : List (List UInt8)} (h : Holds l xs) : Up ((objs l).map (·.1)) := by
  have : (objs l).map (·.1) = namesL l := by rw [objs, List.map_map]; exact List.map_id'' (fun _ => rfl) _
  rw [this]; exact namesL_up h.keys
/-- Write's answer, where it takes them. -/
theorem WrAns.good {xs : List (List UInt8)} {q : List UInt8} (h : WrAns xs q 0) : TkOk xs ∧ ∃ l, Holds l xs ∧ (q, 0) = wrR (objs l) ∧ rdP q = .ok ((objs l).map (·.2)) ∧ (objs l).map (·.1) = keysOf xs := by
  rcases h with ⟨h1, _⟩ | ⟨l, hl, hs, hf, hq⟩
  · obtain ⟨i, b, l, _, _, _, _, h0, hne⟩ := h1; exact absurd rfl hne
  · refine ⟨holds_ok hl hs hf, l, hl, hq, rdP_wr hq.symm (fun o ho => ⟨(objs_ok hl o ho).1, (objs_ok hl o ho).2.1⟩) (objs_up hl) (by rw [objs_length]; exact hf), ?_⟩
    rw [← holds_keys hl hs, objs, List.map_map]; exact List.map_id'' (fun _ => rfl) _
theorem WrAns.bad {xs : List (List UInt8)} {q : List UInt8} {e : Int} (h : WrAns xs q e) (he : e ≠ 0) : q = [] := by
  rcases h with ⟨_, h1⟩ | ⟨l, hl, hs, hf, hq⟩
  · exact h1
  · rcases wrR_bad hq with h | h
    · exact absurd h he
    · exact h.2
theorem rdP_ok {q : List UInt8} {l : List (List UInt8)} (h : rdP q = .ok l) : 36 ≤ q.length ∧ q.length ≤ 1048576 ∧ q.take 3 = [82, 80, 49] ∧ (shaD (q.take (q.length - 32))).1 = q.drop (q.length - 32) := by
  by_cases h1 : 1048576 < q.length
  · rw [rdP_1 h1] at h; cases h
  by_cases h2 : q.length < 3 ∨ q.take 3 ≠ [82, 80, 49]
  · rw [rdP_2 h1 h2] at h; cases h
  by_cases h3 : q.length < 35
  · rw [rdP_3 h1 h2 h3] at h; cases h
  have hq : q.length - 32 + 32 = q.length := by omega
  by_cases h4 : (shaD (q.take (q.length - 32))).1 = q.drop (q.length - 32)
  · rw [rdP_5 h1 h2 h3 hq h4] at h
    refine ⟨?_, by omega, Decidable.not_not.1 (not_or.1 h2).2, h4⟩
    unfold rbody at h
    split at h
    · cases h
    · rename_i n a hg
      have := gnum_len hg (by rw [List.length_take]; omega)
      rw [List.length_take] at this
      omega
  · rw [rdP_4 h1 h2 h3 hq h4] at h; cases h
theorem gdig_err {b : List UInt8} {at_ : Nat} {e : Int} (h : gdig b at_ = .error e) : e ≠ 0 := by
  unfold gdig at h
  split at h
  · cases h
  · injection h with h; omega
theorem robj_err {b : List UInt8} {ids : List Dig} {ahead : List UInt8} {depth at_ : Nat} {e : Int} (h : robj b ids ahead depth at_ = .error e) : e ≠ 0 := by
  cases hg : gdig b at_ with
  | error e => rw [robj_e1 hg] at h; injection h with h; rw [← h]; exact gdig_err hg
  | ok x1 =>
  obtain ⟨d1, a1⟩ := x1
  cases hbh : behind ids d1 with
  | false => rw [robj_e2 hg hbh] at h; injection h with h; omega
  | true =>
  cases hn : gnum b a1 with
  | error e => rw [robj_e3 hg hbh hn] at h; injection h with h; rw [← h]; exact gnum_err hn
  | ok x2 =>
  obtain ⟨k, a2⟩ := x2
  by_cases hk : 1 < k ∨ (k = 1 ∧ ids = [])
  · rw [robj_e4 hg hbh hn hk] at h; injection h with h; omega
  by_cases hd : 4 < (depth + 1) * k
  · rw [robj_e5 hg hbh hn hk hd] at h; injection h with h; omega
  cases ht : gtext b a2 with
  | error e => rw [robj_e6 hg hbh hn hk hd ht] at h; injection h with h; rw [← h]; exact gtext_err ht
  | ok x3 =>
  obtain ⟨s1, a3⟩ := x3
  have key : ∀ t : List UInt8, ((k = 1 ∧ apB ahead s1 = (t, 0)) ∨ (k ≠ 1 ∧ t = s1)) → e ≠ 0 := by
    intro t hr
    rw [robj_last hg hbh hn hk hd ht hr] at h
    split at h
    · injection h with h; omega
    · cases h
  by_cases h1 : k = 1
  · by_cases ha : (apB ahead s1).2 = 0
    · exact key (apB ahead s1).1 (.inl ⟨h1, Prod.ext rfl ha⟩)
    · rw [robj_e7 hg hbh hn hk hd ht h1 ha] at h; injection h with h; omega
  · exact key s1 (.inr ⟨h1, rfl⟩)
theorem robjs_err {b : List UInt8} {e : Int} : ∀ (n : Nat) (ids : List Dig) (l : List (List UInt8)) (ahead : List UInt8) (depth at_ : Nat), robjs b n ids l ahead depth at_ = .error e → e ≠ 0
  | 0, _, _, _, _, _, h => by simp [robjs] at h
  | n + 1, ids, l, ahead, depth, at_, h => by
    cases hr : robj b ids ahead depth at_ with
    | error e => rw [robjs_e hr] at h; injection h with h; rw [← h]; exact robj_err hr
    | ok x => obtain ⟨⟨d, s, dp⟩, a⟩ := x; rw [robjs_s hr] at h; exact robjs_err n _ _ _ _ _ h
theorem rdP_err {q : List UInt8} {e : Int} (h : rdP q = .error e) : e ≠ 0 := by
  by_cases h1 : 1048576 < q.length
  · rw [rdP_1 h1] at h; injection h with h; omega
  by_cases h2 : q.length < 3 ∨ q.take 3 ≠ [82, 80, 49]
  · rw [rdP_2 h1 h2] at h; injection h with h; omega
  by_cases h3 : q.length < 35
  · rw [rdP_3 h1 h2 h3] at h; injection h with h; omega
  have hq : q.length - 32 + 32 = q.length := by omega
  by_cases h4 : (shaD (q.take (q.length - 32))).1 = q.drop (q.length - 32)
  · rw [rdP_5 h1 h2 h3 hq h4] at h
    cases hg : gnum (q.take (q.length - 32)) 3 with
    | error e => rw [rbody_1 hg] at h; injection h with h; rw [← h]; exact gnum_err hg
    | ok x =>
      obtain ⟨n, a⟩ := x
      by_cases hn : 500 < n
      · rw [rbody_2 hg hn] at h; injection h with h; omega
      cases hr : robjs (q.take (q.length - 32)) n [] [] [] 0 a with
      | error e => rw [rbody_3 hg hn hr] at h; injection h with h; rw [← h]; exact robjs_err _ _ _ _ _ _ hr
      | ok y =>
        obtain ⟨l, at_⟩ := y
        by_cases ht : at_ = (q.take (q.length - 32)).length
        · rw [rbody_5 hg hn hr ht] at h; cases h
        · rw [rbody_4 hg hn hr ht] at h; injection h with h; omega
  · rw [rdP_4 h1 h2 h3 hq h4] at h; injection h with h; omega
/-! ## A byte that is another one -/
theorem take_set_lt {α : Type} {l : List α} {i n : Nat} {x : α} (h : n ≤ i) : (l.set i x).take n = l.take n := by
  rw [List.take_set, List.set_eq_of_length_le (by rw [List.length_take]; omega)]
theorem drop_set_lt {α : Type} {l : List α} {i n : Nat} {x : α} (h : i < n) : (l.set i x).drop n = l.drop n := by
  rw [List.drop_set, if_pos h]
section
variable {q : List UInt8} {l : List (List UInt8)} {i : Nat} {x y : UInt8} (h : rdP q = .ok l) (hi : q[i]? = some y) (hx : x ≠ y)
include h hi hx
theorem spoilt_head (h3 : i < 3) : rdP (q.set i x) = .error 7 := by
  obtain ⟨h1, h2, h4, _⟩ := rdP_ok h
  refine rdP_2 (by rw [List.length_set]; omega) (.inr fun he => ?_)
  have e1 : ((q.set i x).take 3)[i]? = (q.take 3)[i]? := by rw [he, h4]
  rw [List.getElem?_take, List.getElem?_take, if_pos h3, if_pos h3, hi, List.getElem?_set_self (by omega)] at e1
  injection e1 with e1
  exact hx e1
theorem spoilt_tail (h3 : q.length - 32 ≤ i) (hl : i < q.length) : rdP (q.set i x) = .error 10 := by
  obtain ⟨h1, h2, h4, h5⟩ := rdP_ok h
  refine rdP_4 (q := q.length - 32) (by rw [List.length_set]; omega) ?_ (by rw [List.length_set]; omega) (by rw [List.length_set]; omega) fun he => ?_
  · rw [take_set_lt (by omega), h4, List.length_set]; rintro (h6 | h6); omega; exact h6 rfl
  · rw [take_set_lt h3, h5] at he
    have e1 : ((q.set i x).drop (q.length - 32))[i - (q.length - 32)]? = (q.drop (q.length - 32))[i - (q.length - 32)]? := by rw [he]
    rw [List.getElem?_drop, List.getElem?_drop, show q.length - 32 + (i - (q.length - 32)) = i from by omega, hi, List.getElem?_set_self hl] at e1
    injection e1 with e1
    exact hx e1
omit hi hx in
theorem spoilt_mid {m : List (List UInt8)} (h3 : i < q.length - 32) (hm : rdP (q.set i x) = .ok m) : shaD ((q.set i x).take (q.length - 32)) = shaD (q.take (q.length - 32)) := by
  obtain ⟨h1, h2, h4, h5⟩ := rdP_ok h
  obtain ⟨k1, k2, k4, k5⟩ := rdP_ok hm
  rw [List.length_set] at k5
  rw [drop_set_lt h3, ← h5] at k5
  exact Subtype.ext k5
end
/-! ## One object -/
theorem wrAns_one {x : List UInt8} {q : List UInt8} {e : Int} (hx : x.length ≤ 131072) (h : WrAns [x, x] q e) : e = 0 ∧ q.length = 3 + 1 + 32 + 1 + (textB x).length + 32 ∧ rdP q = .ok [x] := by
  have hok : TkOk [x, x] := by
    refine ⟨fun b hb => by simp at hb; subst hb; exact hx, ?_, ?_⟩
    · intro a ha b hb _ _ _; simp at ha hb; rw [ha, hb]
    · have hk : keysOf [x, x] = [shaD x] := up_eq (keysOf_up _) (List.pairwise_singleton _ _) fun d => by rw [keysOf_mem]; simp [eq_comm]
      rw [hk]; show 1 ≤ 500; omega
  rcases h with ⟨h1, _⟩ | ⟨l, hl, hs, hf, hq⟩
  · exact absurd hok (tkErr_no h1)
  have hk : keysOf [x, x] = [shaD x] := up_eq (keysOf_up _) (List.pairwise_singleton _ _) fun d => by rw [keysOf_mem]; simp [eq_comm]
  have hn : namesL l = [shaD x] := by rw [holds_keys hl hs, hk]
  have ho : objs l = [(shaD x, x)] := by
    rw [objs, hn]
    have hm := objs_ok hl (shaD x, getB l (shaD x)) (by rw [objs, hn]; exact List.mem_singleton.2 rfl)
    have : getB l (shaD x) = x := by have := hm.2.2; simpa using this
    simp [this]
  have he : e = 0 := by
    rcases wrR_bad hq with h1 | h1
    · exact h1
    · exfalso
      rw [ho] at hq
      unfold wrR at hq
      have hp := wPiece_len (wBegin 1) (shaD x, x) hx
      rw [wRun, if_neg (by show ¬ 1048544 < (([82, 80, 49] ++ vi 1) ++ wPiece (wBegin 1) (shaD x, x)).length; rw [List.length_append, List.length_append]; have := vi_len9 (n := 1) (by omega); show ¬ 1048544 < 3 + _ + _; omega), wRun] at hq
      have := congrArg Prod.snd hq
      rw [h1.1] at this
      cases this
  subst he
  have hg := WrAns.good (xs := [x, x]) (q := q) (.inr ⟨l, hl, hs, hf, hq⟩)
  refine ⟨rfl, ?_, ?_⟩
  · rw [ho] at hq
    unfold wrR at hq
    have hp := wPiece_len (wBegin 1) (shaD x, x) hx
    rw [wRun, if_neg (by show ¬ 1048544 < (([82, 80, 49] ++ vi 1) ++ wPiece (wBegin 1) (shaD x, x)).length; rw [List.length_append, List.length_append]; have := vi_len9 (n := 1) (by omega); show ¬ 1048544 < 3 + _ + _; omega), wRun] at hq
    have hq := congrArg Prod.fst hq
    simp only [] at hq
    rw [hq, List.length_append, (shaD _).2]
    show ((([82, 80, 49] ++ vi 1) ++ wPiece (wBegin 1) (shaD x, x)).length) + 32 = _
    have hk0 : toldK (wBegin 1).ahead x (wBegin 1).first (wBegin 1).depth = 0 := by unfold toldK; rw [if_pos (.inl rfl)]
    have hb0 : toldB (wBegin 1).ahead x (wBegin 1).first (wBegin 1).depth = x := by unfold toldB; rw [if_pos hk0]
    simp only [wPiece, hk0, hb0, List.length_append, (shaD x).2, vi_lt (show 1 < 128 by decide), vi_lt (show 0 < 128 by decide), List.length_cons, List.length_nil]
    omega
  · obtain ⟨_, l2, hl2, _, hr, hk2⟩ := hg
    have hn2 : namesL l2 = [shaD x] := by rw [holds_keys hl2 hs, hk]
    have ho2 : objs l2 = [(shaD x, x)] := by
      rw [objs, hn2]
      have hm := objs_ok hl2 (shaD x, getB l2 (shaD x)) (by rw [objs, hn2]; exact List.mem_singleton.2 rfl)
      have : getB l2 (shaD x) = x := by have := hm.2.2; simpa using this
      simp [this]
    rw [hr, ho2]
    rfl
end Go.Proofs.YtoncdfpohdchgaaDoor

/- recensionlaw12's alive, walked; two lists of texts; PackHeads. No condition but the bounds of what is handed in. -/
namespace Go.Fw
open Go.RowKit
theorem run_bs2p {P : Program} {t e : TypeId} {ie : TypeInfo} {z : Value} {a b : Value} (hu : P.underlying t = some (.slice e)) (hi : P.info? e = some ie) (hz : ie.zero = some z) (h1 : ie.size = 1) (ha : a.cells = #[a]) (hb : b.cells = #[b]) (w : World) :
    (Instr.buildSlice t 2 [(0, a), (1, b)].toArray).run P w = .ok (.slice (some ⟨w.heap.size, 0, none⟩) 2 2) (w.alloc (.cells [a, b].toArray e)) := by
  refine run_buildSlice w t e 2 _ _ ie z hu hi hz (by omega) (by omega) ?_
  have h := Go.Great.fill_whole (s := ie.size) (by omega) [a, b] ((Array.range (2 * ie.size)).map (z.cells[· % z.cells.size]!)) (by intro u hu; simp at hu; rcases hu with rfl | rfl <;> simp [*]) (by simp)
  simpa [ha, hb] using h
theorem WL.gst {P : Program} {n : NN} {Φ : Exit → Fr → World → Prop} {fr : Fr} {w : World} {ty : TypeId} {R : Value → World → Prop} {ops : Array Oper} {rest : List Oper} {d j dj : Nat} {b : Bool} {o : Op} {pos : String} {aft : Array Edge}
    (hj : (ops[j]?).bind (·.dst) = some dj) (hg : fr.get dj = some (.bool b))
    (hs : St P n fr o ty w R) (hd : d < n.1) (h : ∀ v w', R v w' → WL P ops n Φ rest ((d, v) :: fr) w') : WL P ops n Φ (⟨some d, o, ty, pos, aft, some (j, b)⟩ :: rest) fr w := fun a ha =>
  wpList_step fun K hK => by
    obtain ⟨v, w', hr, hR⟩ := hs a ⟨some d, o, ty, pos, aft, some (j, b)⟩ rfl rfl ha
    rw [if_pos (by simp [Region.wanted, yielded_eq ha hj hg])]
    unfold Oper.wp
    rw [hr]
    exact hK _ _ (h v w' hR _ (ha.put hd v))
end Go.Fw
namespace Go.Proofs.YtoncdfpohdchgaaDoor
open Go.RowKit Go.Fw Go.Pl Go.Sort
theorem bs2_strp (a b : ByteArray) (w : World) : (Instr.buildSlice TSs 2 [(0, .string a), (1, .string b)].toArray).run Tryd.prog w = .ok (.slice (some ⟨w.heap.size, 0, none⟩) 2 2) (w.alloc (.cells [.string a, .string b].toArray TStr)) := by
  obtain ⟨i, z, hi, hz, hk, _⟩ := ai_str
  exact run_bs2p Tryd.underlying22 hi hz hk rfl rfl w
theorem Blk.slS {w : World} {g : Nat} {e : TypeId} {xs : List (List UInt8)} (h : Blk w g e (xs.map fun x => .string (bs x))) (hl : xs.length ≤ maxLen) : Sl w strC 1 (.slice (some ⟨g, 0, none⟩) xs.length xs.length) xs :=
  ⟨_, _, _, rfl, rfl, Nat.le_refl _, hl, fun i x hi => ⟨_, rfl, by
    rw [Nat.mul_one]
    exact h.mem.sub i fun j v hj => by
      cases j with
      | zero => simp [strC] at hj; subst hj; simp [hi]
      | succ j => simp [strC] at hj⟩⟩
/-- What Read hands back, taken apart. -/
theorem RdAns.split {p : List UInt8} {w w' : World} {v : Value} (h : RdAns p w v w') : Ext w w' ∧ ∃ e A m c, v = .tuple #[.slice A m c, .int .i64 e] ∧ (∀ k, (Value.slice A m c).ownBlock = some k → w.heap.size ≤ k) ∧
    ((e = 0 ∧ ∃ l, rdP p = .ok l ∧ Own w' TStr 1 (.slice A m c) (flatS l)) ∨ (rdP p = .error e ∧ e ≠ 0 ∧ m = 0)) := by
  obtain ⟨lv, hx, hlw, ⟨l, hl, rfl, hO⟩ | ⟨e, he, rfl, rfl⟩⟩ := h
  · obtain ⟨A, m, c, rfl⟩ := hO.lens
    exact ⟨hx, 0, A, m, c, rfl, hlw, .inl ⟨rfl, l, hl, hO⟩⟩
  · exact ⟨hx, e, none, 0, 0, rfl, hlw, .inr ⟨he, rdP_err he, rfl⟩⟩
theorem tmod_in {i n : Int} (h : 0 < n) : -n < i.tmod n ∧ i.tmod n < n := by
  have h1 := Int.tmod_lt_of_pos (-i) h
  rw [Int.neg_tmod] at h1
  exact ⟨by omega, Int.tmod_lt_of_pos i h⟩
/-- A place that is counted round. -/
theorem round_at {i : Int} {n : Nat} (h : 0 < n) : ∃ j : Nat, (i.tmod (n : Int) + (n : Int)).tmod (n : Int) = (j : Int) ∧ j < n := by
  have hn : (0 : Int) < (n : Int) := by omega
  have h1 := tmod_in (i := i) hn
  have h2 := Int.tmod_nonneg (a := i.tmod (n : Int) + (n : Int)) (n : Int) (by omega)
  have h3 := Int.tmod_lt_of_pos (i.tmod (n : Int) + (n : Int)) hn
  obtain ⟨j, hj⟩ := Int.eq_ofNat_of_zero_le h2
  exact ⟨j, hj, by omega⟩

theorem psame_any (u v : Value) (xs ys : List (List UInt8)) (w : World) (hu : Sl w strC 1 u xs) (hv : Sl w strC 1 v ys) : Calls Tryd.prog 20 #[u, v] w (Ret fun r w' => r = .bool (decide (xs = ys)) ∧ Ext w w') := by
  obtain ⟨A, m, c, rfl, hm, hmc, hcm, hux⟩ := id hu
  obtain ⟨B, n, d, rfl, hn, hnd, hdm, hvx⟩ := id hv
  unfold maxLen at hcm hdm
  refine calls_of_CW 26 [4] [(0, .slice A m c), (1, .slice B n d)] Tryd.func20 rfl rfl rfl (by simp) args2 ?_
  have hE : Ext w w := Chg.refl
  refine CW.seq fun K1 hK1 => ?_
  refine CW.region ?_   -- region 0
  refine WL.val (Y.assign rfl) (by decide) ?_   -- t4 := assign c(false)
  refine WL.nil ?_
  refine hK1 _ _ ?_; try clear hK1 K1
  refine CW.seq fun K2 hK2 => ?_
  refine CW.seq fun K3 hK3 => ?_
  refine CW.region ?_   -- region 1
  refine WL.val (Y.move rfl) (by decide) ?_   -- t6 := move t0
  refine WL.val (Y.len_slice Tryd.underlying22 rfl) (by decide) ?_   -- t7 := call len(t6) : 22
  refine WL.val (Y.move rfl) (by decide) ?_   -- t8 := move t1
  refine WL.val (Y.len_slice Tryd.underlying22 rfl) (by decide) ?_   -- t9 := call len(t8) : 22
  refine WL.val (Y.neq rfl rfl) (by decide) ?_   -- t10 := binOp neq 3 t7 t9 3
  refine WL.nil ?_
  refine hK3 _ _ ?_; try clear hK3 K3
  first | refine CW.condD rfl (fun ht4 => ?_) (fun ht4 => ?_) | refine CW.condND rfl (fun ht4 => ?_) (fun ht4 => ?_) | refine CW.condN rfl (fun ht4 => ?_) (fun ht4 => ?_) | refine CW.cond rfl (fun ht4 => ?_) (fun ht4 => ?_)
  · -- then
    refine CW.seq fun K5 hK5 => ?_
    refine CW.region ?_   -- region 2
    refine WL.val (Y.assign rfl) (by decide) ?_   -- t4 := assign c(false)
    refine WL.nil ?_
    refine hK5 _ _ ?_; try clear hK5 K5
    refine CW.ret ⟨_, rfl, ?_⟩
    exact ⟨by rw [decide_eq_false (fun h => by subst h; omega)], hE⟩
  -- else
  refine CW.skip ?_
  refine hK2 _ _ ?_; try clear hK2 K2
  refine CW.seq fun K6 hK6 => ?_
  refine CW.seq fun K7 hK7 => ?_
  refine CW.region ?_   -- region 3
  refine WL.val (Y.assign rfl) (by decide) ?_   -- t5 := assign c(0:i64)
  refine WL.nil ?_
  refine hK7 _ _ ?_; try clear hK7 K7
  refine CW.block ?_   -- block 0
  refine CW.loop (X := Nat) (fun x => [(0, .slice A m c), (1, .slice B n d), (5, .int .i64 (x : Int))]) (fun x w0 => x ≤ xs.length ∧ xs.take x = ys.take x ∧ Ext w w0) (fun x => xs.length - x) 0 (by repeat (first | exact Fr.le.nil | refine Fr.le.cons rfl ?_)) ⟨Nat.zero_le _, by simp, hE⟩ ?_
  intro x w1 hl1
  obtain ⟨hx, hpre, hE⟩ := hl1
  refine CW.seq fun K8 hK8 => ?_
  refine CW.seq fun K9 hK9 => ?_
  refine CW.region ?_   -- region 4
  refine WL.val (Y.move rfl) (by decide) ?_   -- t11 := move t5
  refine WL.val (Y.move rfl) (by decide) ?_   -- t12 := move t0
  refine WL.val (Y.len_slice Tryd.underlying22 rfl) (by decide) ?_   -- t13 := call len(t12) : 22
  refine WL.val (Y.lss rfl rfl) (by decide) ?_   -- t14 := binOp lss 3 t11 t13 3
  refine WL.nil ?_
  refine hK9 _ _ ?_; try clear hK9 K9
  first | refine CW.condD rfl (fun ht10 => ?_) (fun ht10 => ?_) | refine CW.condND rfl (fun ht10 => ?_) (fun ht10 => ?_) | refine CW.condN rfl (fun ht10 => ?_) (fun ht10 => ?_) | refine CW.cond rfl (fun ht10 => ?_) (fun ht10 => ?_)
  · -- then
    refine CW.skip ?_
    refine hK8 _ _ ?_; try clear hK8 K8
    refine CW.seq fun K11 hK11 => ?_
    refine CW.block ?_   -- block 1
    refine CW.seq fun K12 hK12 => ?_
    obtain ⟨px, hpx⟩ : ∃ p, xs[x]? = some p := ⟨_, List.getElem?_eq_getElem (by omega)⟩
    obtain ⟨py, hpy⟩ : ∃ p, ys[x]? = some p := ⟨_, List.getElem?_eq_getElem (by omega)⟩
    obtain ⟨a, rfl, hma⟩ := (hu.ext hE).at hpx
    obtain ⟨b, rfl, hmb⟩ := (hv.ext hE).at hpy
    refine CW.quiet (fun wq => Ext w1 wq) (by kernel_rfl) (by kernel_rfl) Chg.drew ?_
    refine QL.val (fun wq hq => Y.move rfl) (by decide) ?_   -- t17 := move t0
    refine QL.val (fun wq hq => Y.move rfl) (by decide) ?_   -- t18 := move t5
    refine QL.val (fun wq hq => Y.indexAddrN Tryd.underlying22 rfl rfl sz0_string (by omega)) (by decide) ?_   -- t19 := indexAddr 22 t17 t18
    refine QL.val (fun wq hq => Y.load1 Tryd.underlying9 rfl (hma.ext hq).cell0 rfl) (by decide) ?_   -- t20 := load 9 t19
    refine QL.val (fun wq hq => Y.move rfl) (by decide) ?_   -- t21 := move t1
    refine QL.val (fun wq hq => Y.move rfl) (by decide) ?_   -- t22 := move t5
    refine QL.val (fun wq hq => Y.indexAddrN Tryd.underlying22 rfl rfl sz0_string (by omega)) (by decide) ?_   -- t23 := indexAddr 22 t21 t22
    refine QL.val (fun wq hq => Y.load1 Tryd.underlying9 rfl (hmb.ext hq).cell0 rfl) (by decide) ?_   -- t24 := load 9 t23
    refine QL.val (fun wq hq => Y.neq_string rfl rfl) (by decide) ?_   -- t25 := binOp neq 9 t20 t24 9
    refine QL.nil fun w2 hx2 => ?_
    have hz2 := hx2.size
    have hE := hE.thenExt hx2
    refine hK12 _ _ ?_; try clear hK12 K12
    first | refine CW.condD rfl (fun ht13 => ?_) (fun ht13 => ?_) | refine CW.condND rfl (fun ht13 => ?_) (fun ht13 => ?_) | refine CW.condN rfl (fun ht13 => ?_) (fun ht13 => ?_) | refine CW.cond rfl (fun ht13 => ?_) (fun ht13 => ?_)
    · -- then
      refine CW.seq fun K14 hK14 => ?_
      refine CW.region ?_   -- region 7
      refine WL.val (Y.assign rfl) (by decide) ?_   -- t4 := assign c(false)
      refine WL.nil ?_
      refine hK14 _ _ ?_; try clear hK14 K14
      refine CW.ret ⟨_, rfl, ?_⟩
      exact ⟨by rw [decide_eq_false (fun h => by subst h; rw [hpx] at hpy; injection hpy with hpy; subst hpy; simp at ht13)], hE⟩
    -- else
    refine CW.skip ?_
    refine hK11 _ _ ?_; try clear hK11 K11
    refine CW.region ?_   -- region 5
    refine WL.val (Y.move rfl) (by decide) ?_   -- t15 := move t5
    refine WL.val (Y.add rfl rfl ⟨by omega, by omega⟩) (by decide) ?_   -- t16 := binOp add 3 t15 c(1:i64) 3
    refine WL.val (Y.assign rfl) (by decide) ?_   -- t5 := assign t16
    refine WL.nil ?_
    have hpq : px = py := by simpa [bs_toList] using ht13
    refine ⟨x + 1, by show xs.length - (x + 1) < xs.length - x; omega, (by repeat (first | exact Fr.le.nil | refine Fr.le.cons rfl ?_)), by show x + 1 ≤ xs.length; omega, ?_, hE⟩
    show xs.take (x + 1) = ys.take (x + 1)
    rw [take_succ hpx, take_succ hpy, hpre, hpq]
  -- else
  refine CW.exit ?_   -- exit 0
  refine hK6 _ _ ?_; try clear hK6 K6
  refine CW.seq fun K15 hK15 => ?_
  refine CW.region ?_   -- region 8
  refine WL.val (Y.assign rfl) (by decide) ?_   -- t4 := assign c(true)
  refine WL.nil ?_
  refine hK15 _ _ ?_; try clear hK15 K15
  refine CW.ret ⟨_, rfl, ?_⟩
  exact ⟨by rw [decide_eq_true (by have h1 : xs.take x = xs := List.take_of_length_le (by omega); have h2 : ys.take x = ys := List.take_of_length_le (by omega); rw [← h1, ← h2]; exact hpre)], hE⟩
theorem palive_any (w : World) (hK : Mem w ⟨0, 0, none⟩ (wds keysL)) : Calls Tryd.prog 10 #[] w (Ret fun r w' => r = .bool true ∧ Ext w w') := by
  refine calls_of_CW 31 [0] [] Tryd.func10 rfl rfl rfl (by simp) args0 ?_
  have hE : Ext w w := Chg.refl
  refine CW.seq fun K1 hK1 => ?_
  refine CW.region ?_   -- region 0
  refine WL.val (Y.assign rfl) (by decide) ?_   -- t0 := assign c(false)
  refine WL.nil ?_
  refine hK1 _ _ ?_; try clear hK1 K1
  refine CW.seq fun K2 hK2 => ?_
  refine CW.region ?_   -- region 1
  refine WL.st (St.buildSlice rfl (bs2_strp _ _)) (by decide) fun v6 w1 hR1 => ?_   -- t6 := buildSlice 22 2 [(0,c(STR)), (1,c(STR))]
  obtain ⟨g6, rfl, hg6, hB6, hx1⟩ := hR1
  have hz1 := hx1.size
  have hE := hE.thenExt hx1
  have hK := hK.ext hx1
  refine WL.call Tryd.func9 rfl rfl rfl (pwrite_any _ [[97], [97]] _ (Blk.slS (xs := [[97], [97]]) hB6 (by simp [maxLen])) (fun x hx => by simp at hx; subst hx; simp) hK) (by simp) ?_; rintro v7 w2 hR2   -- t7 := call F9(t6) : 22
  obtain ⟨⟨q, e, rfl, hW⟩, hx2⟩ := hR2
  have hz2 := hx2.size
  have hE := hE.thenExt hx2
  have hK := hK.ext hx2
  obtain ⟨rfl, hql, hrq⟩ := wrAns_one (by decide) hW
  have hq71 : (bs q).size = 71 := by rw [bs_size, hql, textB, vi_lt (by decide)]; rfl
  refine WL.val (Y.move rfl) (by decide) ?_   -- t5 := move t7
  refine WL.val (Y.extract rfl rfl) (by decide) ?_   -- t8 := extract t5 0
  refine WL.val (Y.extract rfl rfl) (by decide) ?_   -- t9 := extract t5 1
  refine WL.val (Y.assign rfl) (by decide) ?_   -- t1 := assign t8
  refine WL.val (Y.assign rfl) (by decide) ?_   -- t2 := assign t9
  refine WL.nil ?_
  refine hK2 _ _ ?_; try clear hK2 K2
  refine CW.seq fun K3 hK3 => ?_
  refine CW.region ?_   -- region 2
  refine WL.val (Y.move rfl) (by decide) ?_   -- t11 := move t1
  refine WL.call Tryd.func11 rfl rfl rfl (pread_any q _ hK) (by simp) ?_; rintro v12 w3 hR3   -- t12 := call F11(t11) : 9
  obtain ⟨hx3, e9, A3, m3, c3, rfl, hlw, ⟨rfl, l9, hl9, hO⟩ | ⟨he9, _⟩⟩ := RdAns.split hR3
  rotate_left
  · rw [hrq] at he9; cases he9
  obtain rfl : [[97]] = l9 := by rw [hrq] at hl9; injection hl9
  have hz3 := hx3.size
  have hE := hE.thenExt hx3
  have hK := hK.ext hx3
  refine WL.val (Y.move rfl) (by decide) ?_   -- t10 := move t12
  refine WL.val (Y.extract rfl rfl) (by decide) ?_   -- t13 := extract t10 0
  refine WL.val (Y.extract rfl rfl) (by decide) ?_   -- t14 := extract t10 1
  refine WL.val (Y.assign rfl) (by decide) ?_   -- t3 := assign t13
  refine WL.val (Y.assign rfl) (by decide) ?_   -- t4 := assign t14
  refine WL.nil ?_
  refine hK3 _ _ ?_; try clear hK3 K3
  refine CW.seq fun K4 hK4 => ?_
  refine CW.region ?_   -- region 3
  refine WL.val (Y.move rfl) (by decide) ?_   -- t15 := move t2
  refine WL.val (Y.eql rfl rfl) (by decide) ?_   -- t16 := binOp eql 23 t15 c(0:i64) 23
  refine WL.val (Y.move rfl) (by decide) ?_   -- t17 := move t16
  first | refine WL.casesD (d := 17) rfl (fun hg17 => ?_) (fun hg17 => ?_) | refine WL.casesND (d := 17) rfl (fun hg17 => ?_) (fun hg17 => ?_) | refine WL.cases (d := 17) rfl (fun hg17 => ?_) (fun hg17 => ?_)
  · -- t17 = T
    refine WL.gval rfl rfl (Y.move rfl) (by decide) ?_   -- t18 := move t4 [if 2=true]
    refine WL.gval rfl rfl (Y.eql rfl rfl) (by decide) ?_   -- t19 := binOp eql 23 t18 c(0:i64) 23 [if 2=true]
    refine WL.val (Y.pick rfl rfl) (by decide) ?_   -- t20 := pick t17 t19 c(false)
    refine WL.val (Y.move rfl) (by decide) ?_   -- t21 := move t20
    first | refine WL.casesD (d := 21) rfl (fun hg21 => ?_) (fun hg21 => ?_) | refine WL.casesND (d := 21) rfl (fun hg21 => ?_) (fun hg21 => ?_) | refine WL.cases (d := 21) rfl (fun hg21 => ?_) (fun hg21 => ?_)
    · -- t21 = T
      refine WL.gval rfl rfl (Y.move rfl) (by decide) ?_   -- t22 := move t1 [if 6=true]
      refine WL.gval rfl rfl (Y.len_string Tryd.underlying9 rfl) (by decide) ?_   -- t23 := call len(t22) : 9 [if 6=true]
      refine WL.gval rfl rfl (Y.eql rfl rfl) (by decide) ?_   -- t24 := binOp eql 3 t23 c(71:i64) 3 [if 6=true]
      refine WL.val (Y.pick rfl rfl) (by decide) ?_   -- t25 := pick t21 t24 c(false)
      refine WL.val (Y.move rfl) (by decide) ?_   -- t26 := move t25
      first | refine WL.casesD (d := 26) rfl (fun hg26 => ?_) (fun hg26 => ?_) | refine WL.casesND (d := 26) rfl (fun hg26 => ?_) (fun hg26 => ?_) | refine WL.cases (d := 26) rfl (fun hg26 => ?_) (fun hg26 => ?_)
      · -- t26 = T
        refine WL.gval rfl rfl (Y.move rfl) (by decide) ?_   -- t27 := move t3 [if 11=true]
        refine WL.gst rfl rfl (St.buildSlice rfl (bs1_str _)) (by decide) fun v28 w4 hR4 => ?_   -- t28 := buildSlice 22 1 [(0,c(STR))] [if 11=true]
        obtain ⟨g28, rfl, hg28, hB28, hx4⟩ := hR4
        have hz4 := hx4.size
        have hE := hE.thenExt hx4
        have hK := hK.ext hx4
        refine WL.gcall rfl rfl Tryd.func20 rfl rfl rfl (psame_any _ _ [[97]] [[97]] _ ((hO.ext hx4).sl strC_length (by decide)) (Blk.slS (xs := [[97]]) hB28 (by simp [maxLen]))) (by decide) ?_; rintro v29 w5 hR5   -- t29 := call F20(t27, t28) : 22,22 [if 11=true]
        obtain ⟨rfl, hx5⟩ := hR5
        have hz5 := hx5.size
        have hE := hE.thenExt hx5
        have hK := hK.ext hx5
        refine WL.val (Y.pick rfl rfl) (by decide) ?_   -- t30 := pick t26 t29 c(false)
        refine WL.val (Y.assign rfl) (by decide) ?_   -- t0 := assign t30
        refine WL.nil ?_
        refine hK4 _ _ ?_; try clear hK4 K4
        refine CW.ret ⟨_, rfl, ?_⟩
        exact ⟨by simp, hE⟩
      · -- t26 = F
        refine WL.goff rfl rfl (by decide) ?_   -- t27 := move t3 [if 11=true]
        refine WL.goff rfl rfl (by decide) ?_   -- t28 := buildSlice 22 1 [(0,c(STR))] [if 11=true]
        refine WL.goff rfl rfl (by decide) ?_   -- t29 := call F20(t27, t28) : 22,22 [if 11=true]
        refine WL.val (Y.pick rfl rfl) (by decide) ?_   -- t30 := pick t26 t29 c(false)
        refine WL.val (Y.assign rfl) (by decide) ?_   -- t0 := assign t30
        refine WL.nil ?_
        refine hK4 _ _ ?_; try clear hK4 K4
        refine CW.ret ⟨_, rfl, ?_⟩
        exact absurd (by rw [hq71]; rfl) hg26
    · -- t21 = F
      refine WL.goff rfl rfl (by decide) ?_   -- t22 := move t1 [if 6=true]
      refine WL.goff rfl rfl (by decide) ?_   -- t23 := call len(t22) : 9 [if 6=true]
      refine WL.goff rfl rfl (by decide) ?_   -- t24 := binOp eql 3 t23 c(71:i64) 3 [if 6=true]
      refine WL.val (Y.pick rfl rfl) (by decide) ?_   -- t25 := pick t21 t24 c(false)
      refine WL.val (Y.move rfl) (by decide) ?_   -- t26 := move t25
      refine WL.goff rfl rfl (by decide) ?_   -- t27 := move t3 [if 11=true]
      refine WL.goff rfl rfl (by decide) ?_   -- t28 := buildSlice 22 1 [(0,c(STR))] [if 11=true]
      refine WL.goff rfl rfl (by decide) ?_   -- t29 := call F20(t27, t28) : 22,22 [if 11=true]
      refine WL.val (Y.pick rfl rfl) (by decide) ?_   -- t30 := pick t26 t29 c(false)
      refine WL.val (Y.assign rfl) (by decide) ?_   -- t0 := assign t30
      refine WL.nil ?_
      refine hK4 _ _ ?_; try clear hK4 K4
      refine CW.ret ⟨_, rfl, ?_⟩
      exact absurd rfl hg21
  · -- t17 = F
    refine WL.goff rfl rfl (by decide) ?_   -- t18 := move t4 [if 2=true]
    refine WL.goff rfl rfl (by decide) ?_   -- t19 := binOp eql 23 t18 c(0:i64) 23 [if 2=true]
    refine WL.val (Y.pick rfl rfl) (by decide) ?_   -- t20 := pick t17 t19 c(false)
    refine WL.val (Y.move rfl) (by decide) ?_   -- t21 := move t20
    refine WL.goff rfl rfl (by decide) ?_   -- t22 := move t1 [if 6=true]
    refine WL.goff rfl rfl (by decide) ?_   -- t23 := call len(t22) : 9 [if 6=true]
    refine WL.goff rfl rfl (by decide) ?_   -- t24 := binOp eql 3 t23 c(71:i64) 3 [if 6=true]
    refine WL.val (Y.pick rfl rfl) (by decide) ?_   -- t25 := pick t21 t24 c(false)
    refine WL.val (Y.move rfl) (by decide) ?_   -- t26 := move t25
    refine WL.goff rfl rfl (by decide) ?_   -- t27 := move t3 [if 11=true]
    refine WL.goff rfl rfl (by decide) ?_   -- t28 := buildSlice 22 1 [(0,c(STR))] [if 11=true]
    refine WL.goff rfl rfl (by decide) ?_   -- t29 := call F20(t27, t28) : 22,22 [if 11=true]
    refine WL.val (Y.pick rfl rfl) (by decide) ?_   -- t30 := pick t26 t29 c(false)
    refine WL.val (Y.assign rfl) (by decide) ?_   -- t0 := assign t30
    refine WL.nil ?_
    refine hK4 _ _ ?_; try clear hK4 K4
    refine CW.ret ⟨_, rfl, ?_⟩
    exact absurd rfl hg17
set_option maxRecDepth 20000 in
theorem packHeads_any (u : Value) (xs : List (List UInt8)) (i : Int) (w : World) (hu : Sl w strC 1 u xs) (hs : ∀ x ∈ xs, x.length ≤ 140737488351232) (hi : InI64 i) (hK : Mem w ⟨0, 0, none⟩ (wds keysL)) : Calls Tryd.prog 6 #[u, .int .i64 i] w (Ret fun r w' => r = .bool true ∧ Ext w w') := by
  obtain ⟨A, m, c, rfl, hm, hmc, hcm, hux⟩ := id hu
  refine calls_of_CW 76 [4] [(0, .slice A m c), (1, .int .i64 i)] Tryd.func6 rfl rfl rfl (by simp) args2 ?_
  have hE : Ext w w := Chg.refl
  refine CW.seq fun K1 hK1 => ?_
  refine CW.region ?_   -- region 0
  refine WL.val (Y.assign rfl) (by decide) ?_   -- t4 := assign c(false)
  refine WL.nil ?_
  refine hK1 _ _ ?_; try clear hK1 K1
  refine CW.seq fun K2 hK2 => ?_
  refine CW.region ?_   -- region 1
  refine WL.val (Y.move rfl) (by decide) ?_   -- t12 := move t0
  refine WL.call Tryd.func9 rfl rfl rfl (pwrite_any _ xs _ hu hs hK) (by simp) ?_; rintro v13 w1 hR1   -- t13 := call F9(t12) : 22
  obtain ⟨⟨q, e, rfl, hW⟩, hx1⟩ := hR1
  have hz1 := hx1.size
  have hE := hE.thenExt hx1
  have hK := hK.ext hx1
  have hbs := bs_size q
  have hgood : e = 0 → ∃ l, rdP q = .ok l := by rintro rfl; obtain ⟨_, l, _, _, h, _⟩ := hW.good; exact ⟨_, h⟩
  have hbad : e ≠ 0 → q = [] := hW.bad
  refine WL.val (Y.move rfl) (by decide) ?_   -- t11 := move t13
  refine WL.val (Y.extract rfl rfl) (by decide) ?_   -- t14 := extract t11 0
  refine WL.val (Y.extract rfl rfl) (by decide) ?_   -- t15 := extract t11 1
  refine WL.val (Y.assign rfl) (by decide) ?_   -- t5 := assign t14
  refine WL.val (Y.assign rfl) (by decide) ?_   -- t6 := assign t15
  refine WL.nil ?_
  refine hK2 _ _ ?_; try clear hK2 K2
  refine CW.seq fun K3 hK3 => ?_
  refine CW.seq_test 22 (¬ e = 0 ∨ ((bs q).size : Int) < 36) ?_ ?_
  · refine CW.region ?_
    refine WL.val (Y.move rfl) (by decide) ?_   -- t16 := move t6
    refine WL.val (Y.neq rfl rfl) (by decide) ?_   -- t17 := binOp neq 23 t16 c(0:i64) 23
    refine WL.val (Y.move rfl) (by decide) ?_   -- t18 := move t17
    first | refine WL.casesD (d := 18) rfl (fun hg18 => ?_) (fun hg18 => ?_) | refine WL.casesND (d := 18) rfl (fun hg18 => ?_) (fun hg18 => ?_) | refine WL.cases (d := 18) rfl (fun hg18 => ?_) (fun hg18 => ?_)
    · -- t18 = T
      refine WL.goff rfl rfl (by decide) ?_   -- t19 := move t5 [if 2=false]
      refine WL.goff rfl rfl (by decide) ?_   -- t20 := call len(t19) : 9 [if 2=false]
      refine WL.goff rfl rfl (by decide) ?_   -- t21 := binOp lss 3 t20 c(36:i64) 3 [if 2=false]
      refine WL.val (Y.pick rfl rfl) (by decide) ?_   -- t22 := pick t18 c(true) t21
      refine WL.nil ⟨⟨_, rfl, ?_⟩, rfl, (by repeat (first | exact Fr.le.refl | refine Fr.le.push rfl ?_))⟩
      first | (simp only [*, Int.natCast_inj, Bool.not_eq_true', decide_eq_false_iff_not, decide_eq_true_eq, not_true_eq_false, not_false_eq_true, true_and, false_and, and_true, and_false, false_or, or_false, true_or, or_true, iff_true, true_iff, iff_false, false_iff]; done) | (simp_all; done) | (refine congrArg Value.bool (Bool.eq_iff_iff.2 ?_); simp_all; done) | (simp_all; omega)
    · -- t18 = F
      refine WL.gval rfl rfl (Y.move rfl) (by decide) ?_   -- t19 := move t5 [if 2=false]
      refine WL.gval rfl rfl (Y.len_string Tryd.underlying9 rfl) (by decide) ?_   -- t20 := call len(t19) : 9 [if 2=false]
      refine WL.gval rfl rfl (Y.lss rfl rfl) (by decide) ?_   -- t21 := binOp lss 3 t20 c(36:i64) 3 [if 2=false]
      refine WL.val (Y.pick rfl rfl) (by decide) ?_   -- t22 := pick t18 c(true) t21
      refine WL.nil ⟨⟨_, rfl, ?_⟩, rfl, (by repeat (first | exact Fr.le.refl | refine Fr.le.push rfl ?_))⟩
      first | (simp only [*, Int.natCast_inj, Bool.not_eq_true', decide_eq_false_iff_not, decide_eq_true_eq, not_true_eq_false, not_false_eq_true, true_and, false_and, and_true, and_false, false_or, or_false, true_or, or_true, iff_true, true_iff, iff_false, false_iff]; done) | (simp_all; done) | (refine congrArg Value.bool (Bool.eq_iff_iff.2 ?_); simp_all; done) | (simp_all; omega)
  first | refine CW.condD rfl (fun ht4 => ?_) (fun ht4 => ?_) | refine CW.condND rfl (fun ht4 => ?_) (fun ht4 => ?_) | refine CW.condN rfl (fun ht4 => ?_) (fun ht4 => ?_) | refine CW.cond rfl (fun ht4 => ?_) (fun ht4 => ?_)
  · -- then
    refine CW.seq fun K5 hK5 => ?_
    refine CW.region ?_   -- region 3
    refine WL.val (Y.move rfl) (by decide) ?_   -- t23 := move t6
    refine WL.val (Y.neq rfl rfl) (by decide) ?_   -- t24 := binOp neq 23 t23 c(0:i64) 23
    refine WL.val (Y.move rfl) (by decide) ?_   -- t25 := move t24
    first | refine WL.casesD (d := 25) rfl (fun hg25 => ?_) (fun hg25 => ?_) | refine WL.casesND (d := 25) rfl (fun hg25 => ?_) (fun hg25 => ?_) | refine WL.cases (d := 25) rfl (fun hg25 => ?_) (fun hg25 => ?_)
    · -- t25 = T
      refine WL.gval rfl rfl (Y.move rfl) (by decide) ?_   -- t26 := move t5 [if 2=true]
      refine WL.gval rfl rfl (Y.eql_string rfl rfl) (by decide) ?_   -- t27 := binOp eql 9 t26 c(STR) 9 [if 2=true]
      refine WL.val (Y.pick rfl rfl) (by decide) ?_   -- t28 := pick t25 t27 c(false)
      refine WL.val (Y.move rfl) (by decide) ?_   -- t29 := move t28
      first | refine WL.casesD (d := 29) rfl (fun hg29 => ?_) (fun hg29 => ?_) | refine WL.casesND (d := 29) rfl (fun hg29 => ?_) (fun hg29 => ?_) | refine WL.cases (d := 29) rfl (fun hg29 => ?_) (fun hg29 => ?_)
      · -- t29 = T
        refine WL.gcall rfl rfl Tryd.func10 rfl rfl rfl (palive_any _ hK) (by decide) ?_; rintro v30 w2 hR2   -- t30 := call F10() :  [if 6=true]
        obtain ⟨rfl, hx2⟩ := hR2
        have hz2 := hx2.size
        have hE := hE.thenExt hx2
        have hK := hK.ext hx2
        refine WL.val (Y.pick rfl rfl) (by decide) ?_   -- t31 := pick t29 t30 c(false)
        refine WL.val (Y.assign rfl) (by decide) ?_   -- t4 := assign t31
        refine WL.nil ?_
        refine hK5 _ _ ?_; try clear hK5 K5
        refine CW.ret ⟨_, rfl, ?_⟩
        exact ⟨rfl, hE⟩
      · -- t29 = F
        refine WL.goff rfl rfl (by decide) ?_   -- t30 := call F10() :  [if 6=true]
        refine WL.val (Y.pick rfl rfl) (by decide) ?_   -- t31 := pick t29 t30 c(false)
        refine WL.val (Y.assign rfl) (by decide) ?_   -- t4 := assign t31
        refine WL.nil ?_
        refine hK5 _ _ ?_; try clear hK5 K5
        refine CW.ret ⟨_, rfl, ?_⟩
        have h9 : ((bs q).toList == (bs []).toList) = false := by simpa [bs_toList] using hg29
        rw [hbad hg25, beq_self_eq_true] at h9
        cases h9
    · -- t25 = F
      refine WL.goff rfl rfl (by decide) ?_   -- t26 := move t5 [if 2=true]
      refine WL.goff rfl rfl (by decide) ?_   -- t27 := binOp eql 9 t26 c(STR) 9 [if 2=true]
      refine WL.val (Y.pick rfl rfl) (by decide) ?_   -- t28 := pick t25 t27 c(false)
      refine WL.val (Y.move rfl) (by decide) ?_   -- t29 := move t28
      refine WL.goff rfl rfl (by decide) ?_   -- t30 := call F10() :  [if 6=true]
      refine WL.val (Y.pick rfl rfl) (by decide) ?_   -- t31 := pick t29 t30 c(false)
      refine WL.val (Y.assign rfl) (by decide) ?_   -- t4 := assign t31
      refine WL.nil ?_
      refine hK5 _ _ ?_; try clear hK5 K5
      refine CW.ret ⟨_, rfl, ?_⟩
      have he : e = 0 := by omega
      obtain ⟨lq, hlq⟩ := hgood he
      have := rdP_ok hlq
      omega
  -- else
  refine CW.skip ?_
  refine hK3 _ _ ?_; try clear hK3 K3
  have he : e = 0 := by rcases Decidable.em (e = 0) with h | h; exact h; exact absurd (Or.inl h) ht4
  obtain ⟨lq, hlq⟩ := hgood he
  obtain ⟨hq36, hqm, hq3, hqs⟩ := rdP_ok hlq
  have hrange := tmod_in (i := i) (n := ((bs q).size : Int)) (by omega)
  obtain ⟨j, hj, hjl⟩ := round_at (i := i) (n := (bs q).size) (by omega)
  refine CW.seq fun K6 hK6 => ?_
  refine CW.region ?_   -- region 4
  refine WL.val (Y.move rfl) (by decide) ?_   -- t32 := move t1
  refine WL.val (Y.move rfl) (by decide) ?_   -- t33 := move t5
  refine WL.val (Y.len_string Tryd.underlying9 rfl) (by decide) ?_   -- t34 := call len(t33) : 9
  refine WL.val (Y.rem rfl rfl (by omega)) (by decide) ?_   -- t35 := binOp rem 3 t32 t34 3
  refine WL.val (Y.move rfl) (by decide) ?_   -- t36 := move t5
  refine WL.val (Y.len_string Tryd.underlying9 rfl) (by decide) ?_   -- t37 := call len(t36) : 9
  refine WL.val (Y.add rfl rfl ⟨by omega, by omega⟩) (by decide) ?_   -- t38 := binOp add 3 t35 t37 3
  refine WL.val (Y.move rfl) (by decide) ?_   -- t39 := move t5
  refine WL.val (Y.len_string Tryd.underlying9 rfl) (by decide) ?_   -- t40 := call len(t39) : 9
  refine WL.val (Y.rem rfl rfl (by omega)) (by decide) ?_   -- t41 := binOp rem 3 t38 t40 3
  refine WL.val (Y.assign rfl) (by decide) ?_   -- t1 := assign t41
  refine WL.nil ?_
  refine hK6 _ _ ?_; try clear hK6 K6
  refine CW.seq fun K7 hK7 => ?_
  refine CW.region ?_   -- region 5
  refine WL.val (Y.move rfl) (by decide) ?_   -- t42 := move t5
  refine WL.val (Y.move rfl) (by decide) ?_   -- t43 := move t1
  refine WL.val (Y.strHead (j := j) Tryd.underlying9 rfl rfl (by omega) (by omega)) (by decide) ?_   -- t44 := slice 9 t42 none t43 none
  refine WL.val (Y.assign rfl) (by decide) ?_   -- t7 := assign t44
  refine WL.nil ?_
  refine hK7 _ _ ?_; try clear hK7 K7
  refine CW.seq fun K8 hK8 => ?_
  refine CW.region ?_   -- region 6
  refine WL.val (Y.move rfl) (by decide) ?_   -- t46 := move t7
  refine WL.call Tryd.func11 rfl rfl rfl (pread_any (q.take j) _ hK) (by simp) ?_; rintro v47 w3 hR3   -- t47 := call F11(t46) : 9
  obtain ⟨hx3, e3, A3, m3, c3, rfl, hlw, hans⟩ := RdAns.split hR3
  have hz3 := hx3.size
  have hE := hE.thenExt hx3
  have hK := hK.ext hx3
  refine WL.val (Y.move rfl) (by decide) ?_   -- t45 := move t47
  refine WL.val (Y.extract rfl rfl) (by decide) ?_   -- t48 := extract t45 0
  refine WL.val (Y.extract rfl rfl) (by decide) ?_   -- t49 := extract t45 1
  refine WL.val (Y.assign rfl) (by decide) ?_   -- t8 := assign t48
  refine WL.val (Y.assign rfl) (by decide) ?_   -- t9 := assign t49
  refine WL.nil ?_
  refine hK8 _ _ ?_; try clear hK8 K8
  refine CW.seq fun K9 hK9 => ?_
  refine CW.seq fun K10 hK10 => ?_
  refine CW.region ?_   -- region 7
  refine WL.val (Y.move rfl) (by decide) ?_   -- t50 := move t9
  refine WL.val (Y.neq rfl rfl) (by decide) ?_   -- t51 := binOp neq 23 t50 c(0:i64) 23
  refine WL.nil ?_
  refine hK10 _ _ ?_; try clear hK10 K10
  first | refine CW.condD rfl (fun ht11 => ?_) (fun ht11 => ?_) | refine CW.condND rfl (fun ht11 => ?_) (fun ht11 => ?_) | refine CW.condN rfl (fun ht11 => ?_) (fun ht11 => ?_) | refine CW.cond rfl (fun ht11 => ?_) (fun ht11 => ?_)
  · -- then
    refine CW.seq fun K12 hK12 => ?_
    refine CW.region ?_   -- region 8
    refine WL.val (Y.move rfl) (by decide) ?_   -- t52 := move t8
    refine WL.val (Y.len_slice Tryd.underlying22 rfl) (by decide) ?_   -- t53 := call len(t52) : 22
    refine WL.val (Y.eql rfl rfl) (by decide) ?_   -- t54 := binOp eql 3 t53 c(0:i64) 3
    refine WL.val (Y.move rfl) (by decide) ?_   -- t55 := move t54
    first | refine WL.casesD (d := 55) rfl (fun hg55 => ?_) (fun hg55 => ?_) | refine WL.casesND (d := 55) rfl (fun hg55 => ?_) (fun hg55 => ?_) | refine WL.cases (d := 55) rfl (fun hg55 => ?_) (fun hg55 => ?_)
    · -- t55 = T
      refine WL.gcall rfl rfl Tryd.func10 rfl rfl rfl (palive_any _ hK) (by decide) ?_; rintro v56 w4 hR4   -- t56 := call F10() :  [if 3=true]
      obtain ⟨rfl, hx4⟩ := hR4
      have hz4 := hx4.size
      have hE := hE.thenExt hx4
      have hK := hK.ext hx4
      refine WL.val (Y.pick rfl rfl) (by decide) ?_   -- t57 := pick t55 t56 c(false)
      refine WL.val (Y.assign rfl) (by decide) ?_   -- t4 := assign t57
      refine WL.nil ?_
      refine hK12 _ _ ?_; try clear hK12 K12
      refine CW.ret ⟨_, rfl, ?_⟩
      exact ⟨rfl, hE⟩
    · -- t55 = F
      refine WL.goff rfl rfl (by decide) ?_   -- t56 := call F10() :  [if 3=true]
      refine WL.val (Y.pick rfl rfl) (by decide) ?_   -- t57 := pick t55 t56 c(false)
      refine WL.val (Y.assign rfl) (by decide) ?_   -- t4 := assign t57
      refine WL.nil ?_
      refine hK12 _ _ ?_; try clear hK12 K12
      refine CW.ret ⟨_, rfl, ?_⟩
      obtain ⟨h, _⟩ | ⟨_, _, h⟩ := hans
      · omega
      · omega
  -- else
  refine CW.skip ?_
  refine hK9 _ _ ?_; try clear hK9 K9
  obtain ⟨_, l3, hl3, _⟩ | ⟨_, h3, _⟩ := hans
  rotate_left
  · exact absurd (by omega) h3
  obtain ⟨k36, km, k3, ks⟩ := rdP_ok hl3
  have hbk := bs_size (q.take j)
  obtain ⟨k, hk⟩ : ∃ k, k = (q.take j).length - 32 := ⟨_, rfl⟩
  rw [← hk] at ks
  refine CW.seq fun K13 hK13 => ?_
  refine CW.region ?_   -- region 9
  refine WL.val (Y.move rfl) (by decide) ?_   -- t58 := move t7
  refine WL.val (Y.move rfl) (by decide) ?_   -- t59 := move t7
  refine WL.val (Y.len_string Tryd.underlying9 rfl) (by decide) ?_   -- t60 := call len(t59) : 9
  refine WL.val (Y.sub rfl rfl ⟨by omega, by omega⟩) (by decide) ?_   -- t61 := binOp sub 3 t60 c(32:i64) 3
  refine WL.val (Y.strHead (j := k) Tryd.underlying9 rfl rfl (by omega) (by omega)) (by decide) ?_   -- t62 := slice 9 t58 none t61 none
  refine WL.st (St.strBytes Tryd.underlying9 Tryd.underlying33 Tryd.underlying5 rfl (by rw [bs_size]; rw [List.length_take]; omega)) (by decide) fun v63 w5 hR5 => ?_   -- t63 := convert 9 33 t62
  obtain ⟨hO63, hx5, hf63⟩ := hR5
  rw [bs_toList] at hO63
  have hz5 := hx5.size
  have hE := hE.thenExt hx5
  have hK := hK.ext hx5
  refine WL.call Tryd.func12 rfl rfl rfl (sum_any _ ((q.take j).take k) _ hO63.by (fun _ k hk => hO63.lt k hk) hK (by rw [List.length_take]; omega)) (by simp) ?_; rintro v64 w6 hR6   -- t64 := call F12(t63) : 33
  obtain ⟨rfl, hx6⟩ := hR6
  have hz6 := hx6.size
  have hE := hE.thenExt hx6
  have hK := hK.ext hx6
  refine as_apiDigest rfl (by simp) (by decide) fun g10 w7 hx7 hg10 hB10 => ?_   -- alloc 31; store 31 t10 t64
  have hlt10 := hB10.lt; have hz7 := hx7.size
  have hM10 := hB10.mem; have hz7 := hx7.size; have hE := hE.thenExt hx7; have hK := hK.ext hx7
  refine WL.nil ?_
  refine hK13 _ _ ?_; try clear hK13 K13
  refine CW.seq fun K14 hK14 => ?_
  refine CW.held (fun wq => Ext w7 wq) (by kernel_rfl) 12 rfl fun w8 hS => ?_
  refine RH.take 0 (fun _ _ _ _ h => h) (by kernel_rfl) hS rfl (by kernel_rfl) (by kernel_rfl) (fun wq hq => Y.slice_arr Tryd.underlying31 rfl sz_uint8) (by decide) ?_   -- t65 := slice 31 t10 none none none
  refine RH.take 1 (fun _ _ _ _ h => h) (by kernel_rfl) hS rfl (by kernel_rfl) (by kernel_rfl) (fun wq hq => Y.bytes_string Tryd.underlying33 Tryd.underlying5 Tryd.underlying9 rfl (shaD ((q.take j).take k)).2 (fun _ => ⟨_, rfl, hB10.mem.ext hq⟩) (fun h => by cases h)) (by decide) ?_   -- t66 := convert 33 9 t65
  refine RH.take 2 (fun _ _ _ _ h => h) (by kernel_rfl) hS rfl (by kernel_rfl) (by kernel_rfl) (fun wq hq => Y.move rfl) (by decide) ?_   -- t67 := move t7
  refine RH.take 3 (fun _ _ _ _ h => h) (by kernel_rfl) hS rfl (by kernel_rfl) (by kernel_rfl) (fun wq hq => Y.move rfl) (by decide) ?_   -- t68 := move t7
  refine RH.take 4 (fun _ _ _ _ h => h) (by kernel_rfl) hS rfl (by kernel_rfl) (by kernel_rfl) (fun wq hq => Y.len_string Tryd.underlying9 rfl) (by decide) ?_   -- t69 := call len(t68) : 9
  refine RH.take 5 (fun _ _ _ _ h => h) (by kernel_rfl) hS rfl (by kernel_rfl) (by kernel_rfl) (fun wq hq => Y.sub rfl rfl ⟨by omega, by omega⟩) (by decide) ?_   -- t70 := binOp sub 3 t69 c(32:i64) 3
  refine RH.take 6 (fun _ _ _ _ h => h) (by kernel_rfl) hS rfl (by kernel_rfl) (by kernel_rfl) (fun wq hq => Y.strTail (i := k) Tryd.underlying9 rfl rfl (by omega) (by omega)) (by decide) ?_   -- t71 := slice 9 t67 t70 none none
  refine RH.take 7 (fun _ _ _ _ h => h) (by kernel_rfl) hS rfl (by kernel_rfl) (by kernel_rfl) (fun wq hq => Y.eql_string rfl rfl) (by decide) ?_   -- t72 := binOp eql 9 t66 t71 9
  refine RH.take 8 (fun _ _ _ _ h => h) (by kernel_rfl) hS rfl (by kernel_rfl) (by kernel_rfl) (fun wq hq => Y.move rfl) (by decide) ?_   -- t73 := move t72
  first | refine RH.casesD (d := 73) rfl (fun hg73 => ?_) (fun hg73 => ?_) | refine RH.cases (d := 73) rfl (fun hg73 => ?_) (fun hg73 => ?_)
  · -- t73 = T
    refine RH.one 9 (by kernel_rfl) ?_
    refine RS.call rfl (fun _ _ h => by cases h; exact ⟨_, rfl, rfl⟩) Tryd.func10 rfl rfl rfl (palive_any _ (hK.ext hS)) (by decide) fun v74 w9 hR9 => ?_   -- call F10() : 
    obtain ⟨rfl, hx9⟩ := hR9
    have hS := hS.thenExt hx9
    refine ⟨hS, ?_⟩
    refine RH.take 10 (fun _ _ _ _ h => h) (by kernel_rfl) hS rfl (by kernel_rfl) (by kernel_rfl) (fun wq hq => Y.pick rfl rfl) (by decide) ?_   -- t75 := pick t73 t74 c(false)
    refine RH.take 11 (fun _ _ _ _ h => h) (by kernel_rfl) hS rfl (by kernel_rfl) (by kernel_rfl) (fun wq hq => Y.assign rfl) (by decide) ?_   -- t4 := assign t75
    refine RH.done (by kernel_rfl) ?_
    have hx10 := hS; have hz10 := hx10.size; have hE := hE.thenExt hx10; have hK := hK.ext hx10; have hB10 := hB10.ext hx10
    refine hK14 _ _ ?_; try clear hK14 K14
    refine CW.ret ⟨_, rfl, ?_⟩
    exact ⟨rfl, hE⟩
  · -- t73 = F
    refine RH.goff 9 (fun _ _ _ _ h => h) (by kernel_rfl) hS rfl (by kernel_rfl) (by kernel_rfl) rfl rfl (by decide) ?_   -- t74 := call F10() : 
    refine RH.take 10 (fun _ _ _ _ h => h) (by kernel_rfl) hS rfl (by kernel_rfl) (by kernel_rfl) (fun wq hq => Y.pick rfl rfl) (by decide) ?_   -- t75 := pick t73 t74 c(false)
    refine RH.take 11 (fun _ _ _ _ h => h) (by kernel_rfl) hS rfl (by kernel_rfl) (by kernel_rfl) (fun wq hq => Y.assign rfl) (by decide) ?_   -- t4 := assign t75
    refine RH.done (by kernel_rfl) ?_
    have hx11 := hS; have hz11 := hx11.size; have hE := hE.thenExt hx11; have hK := hK.ext hx11; have hB10 := hB10.ext hx11
    refine hK14 _ _ ?_; try clear hK14 K14
    refine CW.ret ⟨_, rfl, ?_⟩
    have h9 : ((bs (shaD ((q.take j).take k)).1).toList == (bs ((q.take j).drop k)).toList) = false := by simpa using hg73
    rw [ks, beq_self_eq_true] at h9
    cases h9
end Go.Proofs.YtoncdfpohdchgaaDoor

/- recensionlaw12's PackBack, walked, for lists of a bounded length. -/
namespace Go.Proofs.YtoncdfpohdchgaaDoor
open Go.RowKit Go.Fw Go.Pl Go.Sort
theorem keys_sorted (xs : List (List UInt8)) : srtD (xs.map shaD) = keysOf xs := rfl

set_option maxRecDepth 20000 in
set_option maxHeartbeats 2000000 in
theorem packBack_any (u : Value) (xs : List (List UInt8)) (w : World) (hu : Sl w strC 1 u xs) (hs : ∀ x ∈ xs, x.length ≤ 140737488351232) (hn : xs.length ≤ 1048576) (hK : Mem w ⟨0, 0, none⟩ (wds keysL)) : Calls Tryd.prog 3 #[u] w (Ret fun r w' => r = .bool true ∧ Ext w w') := by
  have hk0 : (0 : Nat) < w.heap.size := hK.lt (fun h => by cases h)
  obtain ⟨A, m, c, rfl, hm, hmc, hcm, hux⟩ := id hu
  refine calls_of_CW 88 [2] [(0, .slice A m c)] Tryd.func3 rfl rfl rfl (by simp) args1 ?_
  have hE : Ext w w := Chg.refl
  refine CW.seq fun K1 hK1 => ?_
  refine CW.region ?_   -- region 0
  refine WL.val (Y.assign rfl) (by decide) ?_   -- t2 := assign c(false)
  refine WL.nil ?_
  refine hK1 _ _ ?_; try clear hK1 K1
  refine CW.seq fun K2 hK2 => ?_
  refine CW.region ?_   -- region 1
  refine WL.val (Y.move rfl) (by decide) ?_   -- t16 := move t0
  refine WL.call Tryd.func9 rfl rfl rfl (pwrite_any _ xs _ hu hs hK) (by simp) ?_; rintro v17 w1 hR1   -- t17 := call F9(t16) : 22
  obtain ⟨⟨q, e, rfl, hW⟩, hx1⟩ := hR1
  have hz1 := hx1.size
  have hE := hE.thenExt hx1
  have hK := hK.ext hx1
  have hbad : e ≠ 0 → q = [] := hW.bad
  have hgd : e = 0 → ∃ l, Holds l xs ∧ rdP q = .ok ((objs l).map (·.2)) ∧ (objs l).map (·.1) = keysOf xs := by rintro rfl; obtain ⟨_, l, h1, _, h2, h3⟩ := hW.good; exact ⟨l, h1, h2, h3⟩
  refine WL.val (Y.move rfl) (by decide) ?_   -- t15 := move t17
  refine WL.val (Y.extract rfl rfl) (by decide) ?_   -- t18 := extract t15 0
  refine WL.val (Y.extract rfl rfl) (by decide) ?_   -- t19 := extract t15 1
  refine WL.val (Y.assign rfl) (by decide) ?_   -- t3 := assign t18
  refine WL.val (Y.assign rfl) (by decide) ?_   -- t4 := assign t19
  refine WL.nil ?_
  refine hK2 _ _ ?_; try clear hK2 K2
  refine CW.seq fun K3 hK3 => ?_
  refine CW.seq fun K4 hK4 => ?_
  refine CW.region ?_   -- region 2
  refine WL.val (Y.move rfl) (by decide) ?_   -- t20 := move t4
  refine WL.val (Y.neq rfl rfl) (by decide) ?_   -- t21 := binOp neq 23 t20 c(0:i64) 23
  refine WL.nil ?_
  refine hK4 _ _ ?_; try clear hK4 K4
  first | refine CW.condD rfl (fun ht5 => ?_) (fun ht5 => ?_) | refine CW.condND rfl (fun ht5 => ?_) (fun ht5 => ?_) | refine CW.condN rfl (fun ht5 => ?_) (fun ht5 => ?_) | refine CW.cond rfl (fun ht5 => ?_) (fun ht5 => ?_)
  · -- then
    refine CW.seq fun K6 hK6 => ?_
    refine CW.region ?_   -- region 3
    refine WL.val (Y.move rfl) (by decide) ?_   -- t22 := move t3
    refine WL.val (Y.eql_string rfl rfl) (by decide) ?_   -- t23 := binOp eql 9 t22 c(STR) 9
    refine WL.val (Y.move rfl) (by decide) ?_   -- t24 := move t23
    first | refine WL.casesD (d := 24) rfl (fun hg24 => ?_) (fun hg24 => ?_) | refine WL.casesND (d := 24) rfl (fun hg24 => ?_) (fun hg24 => ?_) | refine WL.cases (d := 24) rfl (fun hg24 => ?_) (fun hg24 => ?_)
    · -- t24 = T
      refine WL.gcall rfl rfl Tryd.func10 rfl rfl rfl (palive_any _ hK) (by decide) ?_; rintro v25 w2 hR2   -- t25 := call F10() :  [if 2=true]
      obtain ⟨rfl, hx2⟩ := hR2
      have hz2 := hx2.size
      have hE := hE.thenExt hx2
      have hK := hK.ext hx2
      refine WL.val (Y.pick rfl rfl) (by decide) ?_   -- t26 := pick t24 t25 c(false)
      refine WL.val (Y.assign rfl) (by decide) ?_   -- t2 := assign t26
      refine WL.nil ?_
      refine hK6 _ _ ?_; try clear hK6 K6
      refine CW.ret ⟨_, rfl, ?_⟩
      exact ⟨rfl, hE⟩
    · -- t24 = F
      refine WL.goff rfl rfl (by decide) ?_   -- t25 := call F10() :  [if 2=true]
      refine WL.val (Y.pick rfl rfl) (by decide) ?_   -- t26 := pick t24 t25 c(false)
      refine WL.val (Y.assign rfl) (by decide) ?_   -- t2 := assign t26
      refine WL.nil ?_
      refine hK6 _ _ ?_; try clear hK6 K6
      refine CW.ret ⟨_, rfl, ?_⟩
      have h9 : ((bs q).toList == (bs []).toList) = false := by simpa [bs_toList] using hg24
      rw [hbad ht5, beq_self_eq_true] at h9
      cases h9
  -- else
  refine CW.skip ?_
  refine hK3 _ _ ?_; try clear hK3 K3
  refine CW.seq fun K7 hK7 => ?_
  refine CW.region ?_   -- region 4
  refine WL.val (Y.move rfl) (by decide) ?_   -- t28 := move t3
  refine WL.call Tryd.func11 rfl rfl rfl (pread_any q _ hK) (by simp) ?_; rintro v29 w3 hR3   -- t29 := call F11(t28) : 9
  obtain ⟨hx3, e3, A3, m3, c3, rfl, hlw, hans⟩ := RdAns.split hR3
  have hz3 := hx3.size
  have hE := hE.thenExt hx3
  have hK := hK.ext hx3
  have he : e = 0 := by omega
  obtain ⟨ls, hls, hrd, hko⟩ := hgd he
  obtain ⟨rfl, l9, hl9, hO⟩ | ⟨h9, _⟩ := hans
  rotate_left
  · rw [hrd] at h9; cases h9
  obtain rfl : (objs ls).map (·.2) = l9 := by rw [hrd] at hl9; injection hl9
  obtain ⟨_, hoc1, hoc2⟩ := hO.len strC_length (by decide)
  unfold maxLen at hoc2
  have hol := (hO.len strC_length (by decide)).1
  have hkl : (keysOf xs).length = (objs ls).length := by rw [← hko, List.length_map]
  rw [List.length_map] at hol
  refine WL.val (Y.move rfl) (by decide) ?_   -- t27 := move t29
  refine WL.val (Y.extract rfl rfl) (by decide) ?_   -- t30 := extract t27 0
  refine WL.val (Y.extract rfl rfl) (by decide) ?_   -- t31 := extract t27 1
  refine WL.val (Y.assign rfl) (by decide) ?_   -- t5 := assign t30
  refine WL.val (Y.assign rfl) (by decide) ?_   -- t6 := assign t31
  refine WL.nil ?_
  refine hK7 _ _ ?_; try clear hK7 K7
  refine CW.seq fun K8 hK8 => ?_
  refine CW.region ?_   -- region 5
  refine WL.val (Y.assign rfl) (by decide) ?_   -- t7 := assign c(nilslice)
  refine WL.nil ?_
  refine hK8 _ _ ?_; try clear hK8 K8
  refine CW.seq fun K9 hK9 => ?_
  refine CW.seq fun K10 hK10 => ?_
  refine CW.region ?_   -- region 6
  refine WL.val (Y.move rfl) (by decide) ?_   -- t32 := move t0
  refine WL.val (Y.len_slice Tryd.underlying22 rfl) (by decide) ?_   -- t33 := call len(t32) : 22
  refine WL.val (Y.move rfl) (by decide) ?_   -- t34 := move c(0:i64)
  refine WL.nil ?_
  refine hK10 _ _ ?_; try clear hK10 K10
  refine CW.block ?_   -- block 0
  refine CW.loop (X := Nat × Value) (fun x => [(0, .slice A m c), (5, .slice A3 m3 c3), (6, .int .i64 0), (7, x.2), (32, .slice A m c), (33, .int .i64 (m : Int)), (34, .int .i64 (x.1 : Int))]) (fun x w0 => x.1 ≤ xs.length ∧ Ext w w0 ∧ Mem w0 ⟨0, 0, none⟩ (wds keysL) ∧ Own w0 TStr 1 (.slice A3 m3 c3) (flatS ((objs ls).map (·.2))) ∧ Own w0 TDg 32 x.2 (flatD ((xs.take x.1).map shaD)) ∧ (∀ k, x.2.ownBlock = some k → w3.heap.size ≤ k) ∧ w3.heap.size ≤ w0.heap.size) (fun x => xs.length - x.1) (0, .slice none 0 0) (by repeat (first | exact Fr.le.nil | refine Fr.le.cons rfl ?_)) ⟨Nat.zero_le _, hE, hK, hO, Own.nil, fun k h => by simp [Value.ownBlock] at h, Nat.le_refl _⟩ ?_
  intro x w4 hl4
  obtain ⟨x, v⟩ := x
  clear hK hE
  have hOl := hO.lt
  obtain ⟨hx, hE, hK, hO, hV, hvw, hwz⟩ := hl4
  dsimp only at hx hV hvw ⊢
  refine CW.seq fun K11 hK11 => ?_
  refine CW.region ?_   -- region 7
  refine WL.val (Y.lss rfl rfl) (by decide) ?_   -- t35 := binOp lss 3 t34 t33 3
  refine WL.nil ?_
  refine hK11 _ _ ?_; try clear hK11 K11
  refine CW.seq fun K12 hK12 => ?_
  first | refine CW.condD rfl (fun ht13 => ?_) (fun ht13 => ?_) | refine CW.condND rfl (fun ht13 => ?_) (fun ht13 => ?_) | refine CW.condN rfl (fun ht13 => ?_) (fun ht13 => ?_) | refine CW.cond rfl (fun ht13 => ?_) (fun ht13 => ?_)
  · -- then
    refine CW.skip ?_
    refine hK12 _ _ ?_; try clear hK12 K12
    refine CW.seq fun K14 hK14 => ?_
    obtain ⟨p, hp⟩ : ∃ p, xs[x]? = some p := ⟨_, List.getElem?_eq_getElem (by omega)⟩
    obtain ⟨a, rfl, hmp⟩ := (hu.ext hE).at hp
    have hpl := hs _ (List.mem_of_getElem? hp)
    have hvl := hV.lt
    refine CW.block ?_   -- block 1
    refine CW.seq fun K15 hK15 => ?_
    refine CW.region ?_   -- region 8
    refine WL.val (Y.indexAddrN Tryd.underlying22 rfl rfl sz0_string (by omega)) (by decide) ?_   -- t36 := indexAddr 22 t32 t34
    refine WL.val (Y.load1 Tryd.underlying9 rfl hmp.cell0 rfl) (by decide) ?_   -- t37 := load 9 t36
    refine WL.val (Y.assign rfl) (by decide) ?_   -- t9 := assign t37
    refine WL.nil ?_
    refine hK15 _ _ ?_; try clear hK15 K15
    refine CW.region ?_   -- region 9
    refine WL.val (Y.move rfl) (by decide) ?_   -- t38 := move t7
    refine WL.val (Y.move rfl) (by decide) ?_   -- t39 := move t9
    refine WL.st (St.strBytes Tryd.underlying9 Tryd.underlying33 Tryd.underlying5 rfl (by rw [bs_size]; exact hpl)) (by decide) fun v40 w5 hR5 => ?_   -- t40 := convert 9 33 t39
    obtain ⟨hO40, hx5, hf40⟩ := hR5
    rw [bs_toList] at hO40
    have hz5 := hx5.size
    have hE := hE.thenExt hx5
    have hK := hK.ext hx5
    have hO := hO.ext hx5
    have hV := hV.ext hx5
    refine WL.call Tryd.func12 rfl rfl rfl (sum_any _ p _ hO40.by (fun _ k hk => hO40.lt k hk) hK hpl) (by simp) ?_; rintro v41 w6 hR6   -- t41 := call F12(t40) : 33
    obtain ⟨rfl, hx6⟩ := hR6
    have hz6 := hx6.size
    have hE := hE.thenExt hx6
    have hK := hK.ext hx6
    have hO := hO.ext hx6
    have hV := hV.ext hx6
    refine WL.st (St.buildSlice rfl (bs1_dig _)) (by decide) fun v42 w7 hR7 => ?_   -- t42 := buildSlice 29 1 [(0,t41)]
    obtain ⟨g42, rfl, hg42, hB42, hx7⟩ := hR7
    have hz7 := hx7.size
    have hE := hE.thenExt hx7
    have hK := hK.ext hx7
    have hO := hO.ext hx7
    have hV := hV.ext hx7
    refine WL.st (St.append Tryd.underlying29 Tryd.underlying29 ai_dig rfl rfl hV (Src.one hB42 (digC_length _)) one_digC (by rw [flat_length digC_length, List.length_map, List.length_take]; omega)) (by decide) fun v43 w8 hR8 => ?_   -- t43 := call append(t38, t42) : 29,29
    obtain ⟨hV, hc8, hf43⟩ := hR8
    have hz8 := hc8.size
    have hE := hE.step hc8 (fun k h => by have := hvw k h; omega)
    have hK := hK.chg hc8 (fun h => by have h1 : w3.heap.size ≤ 0 := hvw _ h; omega)
    have hO := hO.chg hc8 (fun k hk h => by have := hvw k h; have := hOl k hk; omega)
    have hvw2 : ∀ k, v43.ownBlock = some k → w3.heap.size ≤ k := by
      rcases hf43 with h | h
      · intro k hk; rw [h] at hk; exact hvw k hk
      · intro k hk; have := h k hk; omega
    refine WL.val (Y.assign rfl) (by decide) ?_   -- t7 := assign t43
    refine WL.nil ?_
    refine hK14 _ _ ?_; try clear hK14 K14
    refine CW.region ?_   -- region 10
    refine WL.val (Y.add rfl rfl ⟨by omega, by omega⟩) (by decide) ?_   -- t44 := binOp add 3 t34 c(1:i64) 3
    refine WL.val (Y.move rfl) (by decide) ?_   -- t34 := move t44
    refine WL.nil ?_
    refine ⟨(x + 1, v43), by show xs.length - (x + 1) < xs.length - x; omega, (by repeat (first | exact Fr.le.nil | refine Fr.le.cons rfl ?_)), by show x + 1 ≤ xs.length; omega, hE, hK, hO, ?_, hvw2, by omega⟩
    show Own _ _ _ _ (flatD ((xs.take (x + 1)).map shaD))
    rw [take_succ hp]
    simpa [flatD] using hV
  -- else
  have htk : xs.take x = xs := List.take_of_length_le (by omega)
  rw [htk] at hV
  refine CW.exit ?_   -- exit 0
  refine hK9 _ _ ?_; try clear hK9 K9
  refine CW.seq fun K16 hK16 => ?_
  refine CW.region ?_   -- region 11
  refine WL.val (Y.move rfl) (by decide) ?_   -- t45 := move t7
  refine WL.call Tryd.func13 rfl rfl rfl (sorted_any _ (xs.map shaD) _ (hV.sl digC_length (by decide)) (by rw [List.length_map]; omega)) (by simp) ?_; rintro v46 w9 hR9   -- t46 := call F13(t45) : 29
  obtain ⟨hV, hf46, hx9⟩ := hR9
  have hz9 := hx9.size
  have hE := hE.thenExt hx9
  have hK := hK.ext hx9
  have hO := hO.ext hx9
  rw [keys_sorted] at hV
  obtain ⟨A9, m9, c9, rfl⟩ := hV.lens
  have hml9 := (hV.len digC_length (by decide)).1
  refine WL.val (Y.assign rfl) (by decide) ?_   -- t7 := assign t46
  refine WL.nil ?_
  refine hK16 _ _ ?_; try clear hK16 K16
  refine CW.seq fun K17 hK17 => ?_
  refine CW.seq_test 55 (False) ?_ ?_
  · refine CW.region ?_
    refine WL.val (Y.move rfl) (by decide) ?_   -- t47 := move t6
    refine WL.val (Y.neq rfl rfl) (by decide) ?_   -- t48 := binOp neq 23 t47 c(0:i64) 23
    refine WL.val (Y.move rfl) (by decide) ?_   -- t49 := move t48
    first | refine WL.casesD (d := 49) rfl (fun hg49 => ?_) (fun hg49 => ?_) | refine WL.casesND (d := 49) rfl (fun hg49 => ?_) (fun hg49 => ?_) | refine WL.cases (d := 49) rfl (fun hg49 => ?_) (fun hg49 => ?_)
    · -- t49 = T
      refine WL.goff rfl rfl (by decide) ?_   -- t50 := move t5 [if 2=false]
      refine WL.goff rfl rfl (by decide) ?_   -- t51 := call len(t50) : 22 [if 2=false]
      refine WL.goff rfl rfl (by decide) ?_   -- t52 := move t7 [if 2=false]
      refine WL.goff rfl rfl (by decide) ?_   -- t53 := call len(t52) : 29 [if 2=false]
      refine WL.goff rfl rfl (by decide) ?_   -- t54 := binOp neq 3 t51 t53 3 [if 2=false]
      refine WL.val (Y.pick rfl rfl) (by decide) ?_   -- t55 := pick t49 c(true) t54
      refine WL.nil ⟨⟨_, rfl, ?_⟩, rfl, (by repeat (first | exact Fr.le.refl | refine Fr.le.push rfl ?_))⟩
      first | (simp only [*, Int.natCast_inj, Bool.not_eq_true', decide_eq_false_iff_not, decide_eq_true_eq, not_true_eq_false, not_false_eq_true, true_and, false_and, and_true, and_false, false_or, or_false, true_or, or_true, iff_true, true_iff, iff_false, false_iff]; done) | (simp_all; done) | (refine congrArg Value.bool (Bool.eq_iff_iff.2 ?_); simp_all; done) | (simp_all; omega)
    · -- t49 = F
      refine WL.gval rfl rfl (Y.move rfl) (by decide) ?_   -- t50 := move t5 [if 2=false]
      refine WL.gval rfl rfl (Y.len_slice Tryd.underlying22 rfl) (by decide) ?_   -- t51 := call len(t50) : 22 [if 2=false]
      refine WL.gval rfl rfl (Y.move rfl) (by decide) ?_   -- t52 := move t7 [if 2=false]
      refine WL.gval rfl rfl (Y.len_slice Tryd.underlying29 rfl) (by decide) ?_   -- t53 := call len(t52) : 29 [if 2=false]
      refine WL.gval rfl rfl (Y.neq rfl rfl) (by decide) ?_   -- t54 := binOp neq 3 t51 t53 3 [if 2=false]
      refine WL.val (Y.pick rfl rfl) (by decide) ?_   -- t55 := pick t49 c(true) t54
      refine WL.nil ⟨⟨_, rfl, ?_⟩, rfl, (by repeat (first | exact Fr.le.refl | refine Fr.le.push rfl ?_))⟩
      first | (simp only [*, Int.natCast_inj, Bool.not_eq_true', decide_eq_false_iff_not, decide_eq_true_eq, not_true_eq_false, not_false_eq_true, true_and, false_and, and_true, and_false, false_or, or_false, true_or, or_true, iff_true, true_iff, iff_false, false_iff]; done) | (simp_all; done) | (refine congrArg Value.bool (Bool.eq_iff_iff.2 ?_); simp_all; done) | (simp_all; omega)
  first | refine CW.condD rfl (fun ht18 => ?_) (fun ht18 => ?_) | refine CW.condND rfl (fun ht18 => ?_) (fun ht18 => ?_) | refine CW.condN rfl (fun ht18 => ?_) (fun ht18 => ?_) | refine CW.cond rfl (fun ht18 => ?_) (fun ht18 => ?_)
  · -- then
    refine CW.seq fun K19 hK19 => ?_
    refine CW.region ?_   -- region 13
    refine WL.val (Y.assign rfl) (by decide) ?_   -- t2 := assign c(false)
    refine WL.nil ?_
    refine hK19 _ _ ?_; try clear hK19 K19
    refine CW.ret ⟨_, rfl, ?_⟩
    exact ht18.elim
  -- else
  refine CW.skip ?_
  refine hK17 _ _ ?_; try clear hK17 K17
  refine CW.seq fun K20 hK20 => ?_
  refine CW.seq fun K21 hK21 => ?_
  refine CW.region ?_   -- region 14
  refine WL.val (Y.move rfl) (by decide) ?_   -- t56 := move t5
  refine WL.val (Y.len_slice Tryd.underlying22 rfl) (by decide) ?_   -- t57 := call len(t56) : 22
  refine WL.val (Y.move rfl) (by decide) ?_   -- t58 := move c(0:i64)
  refine WL.nil ?_
  refine hK21 _ _ ?_; try clear hK21 K21
  refine CW.block ?_   -- block 2
  refine CW.loop (X := Nat) (fun x => [(0, .slice A m c), (7, .slice A9 m9 c9), (56, .slice A3 m3 c3), (57, .int .i64 (m3 : Int)), (58, .int .i64 (x : Int))]) (fun x w0 => x ≤ (objs ls).length ∧ Ext w w0 ∧ Mem w0 ⟨0, 0, none⟩ (wds keysL) ∧ Own w0 TStr 1 (.slice A3 m3 c3) (flatS ((objs ls).map (·.2))) ∧ Own w0 TDg 32 (.slice A9 m9 c9) (flatD (keysOf xs))) (fun x => (objs ls).length - x) 0 (by repeat (first | exact Fr.le.nil | refine Fr.le.cons rfl ?_)) ⟨Nat.zero_le _, hE, hK, hO, hV⟩ ?_
  intro x w10 hl10
  rename Nat => y
  clear hK hE hO hV
  obtain ⟨hy, hE, hK, hO, hV⟩ := hl10
  refine CW.seq fun K22 hK22 => ?_
  refine CW.region ?_   -- region 15
  refine WL.val (Y.lss rfl rfl) (by decide) ?_   -- t59 := binOp lss 3 t58 t57 3
  refine WL.nil ?_
  refine hK22 _ _ ?_; try clear hK22 K22
  refine CW.seq fun K23 hK23 => ?_
  first | refine CW.condD rfl (fun ht24 => ?_) (fun ht24 => ?_) | refine CW.condND rfl (fun ht24 => ?_) (fun ht24 => ?_) | refine CW.condN rfl (fun ht24 => ?_) (fun ht24 => ?_) | refine CW.cond rfl (fun ht24 => ?_) (fun ht24 => ?_)
  · -- then
    refine CW.skip ?_
    refine hK23 _ _ ?_; try clear hK23 K23
    refine CW.seq fun K25 hK25 => ?_
    obtain ⟨o, ho⟩ : ∃ o, (objs ls)[y]? = some o := ⟨_, List.getElem?_eq_getElem (by omega)⟩
    have hmem := List.mem_of_getElem? ho
    obtain ⟨ho1, ho2, ho3⟩ := objs_ok hls o hmem
    obtain ⟨a3, ha3, hmo⟩ := (hO.sl strC_length (by decide)).at (show ((objs ls).map (·.2))[y]? = some o.2 by rw [List.getElem?_map, ho]; rfl)
    obtain ⟨a9, ha9, hmk⟩ := (hV.sl digC_length (by decide)).at (show (keysOf xs)[y]? = some o.1 by rw [← hko, List.getElem?_map, ho]; rfl)
    subst ha3; subst ha9
    refine CW.block ?_   -- block 3
    refine CW.seq fun K26 hK26 => ?_
    refine CW.region ?_   -- region 16
    refine WL.val (Y.move rfl) (by decide) ?_   -- t60 := move t58
    refine WL.val (Y.indexAddrN Tryd.underlying22 rfl rfl sz0_string (by omega)) (by decide) ?_   -- t61 := indexAddr 22 t56 t58
    refine WL.val (Y.load1 Tryd.underlying9 rfl hmo.cell0 rfl) (by decide) ?_   -- t62 := load 9 t61
    refine WL.val (Y.assign rfl) (by decide) ?_   -- t10 := assign t60
    refine WL.val (Y.assign rfl) (by decide) ?_   -- t11 := assign t62
    refine WL.nil ?_
    refine hK26 _ _ ?_; try clear hK26 K26
    refine CW.seq fun K27 hK27 => ?_
    refine CW.seq fun K28 hK28 => ?_
    refine CW.held (fun wq => Ext w10 wq) (by kernel_rfl) 8 rfl fun w11 hS => ?_
    refine RH.take 0 (fun _ _ _ _ h => h) (by kernel_rfl) hS rfl (by kernel_rfl) (by kernel_rfl) (fun wq hq => Y.move rfl) (by decide) ?_   -- t63 := move t11
    refine RH.take 3 (fun _ _ _ _ h => h) (by kernel_rfl) hS rfl (by kernel_rfl) (by kernel_rfl) (fun wq hq => Y.move rfl) (by decide) ?_   -- t66 := move t7
    refine RH.take 4 (fun _ _ _ _ h => h) (by kernel_rfl) hS rfl (by kernel_rfl) (by kernel_rfl) (fun wq hq => Y.move rfl) (by decide) ?_   -- t67 := move t10
    refine RH.take 5 (fun _ _ _ _ h => h) (by kernel_rfl) hS rfl (by kernel_rfl) (by kernel_rfl) (fun wq hq => Y.indexAddrN Tryd.underlying29 rfl rfl sz0_apiDigest (by omega)) (by decide) ?_   -- t68 := indexAddr 29 t66 t67
    refine RH.take 6 (fun _ _ _ _ h => h) (by kernel_rfl) hS rfl (by kernel_rfl) (by kernel_rfl) (fun wq hq => Y.load Tryd.underlying31 rfl (hmk.ext hq) (sz_apiDigest _) rfl) (by decide) ?_   -- t69 := load 31 t68
    refine RH.one 1 (by kernel_rfl) ?_
    refine RS.st rfl (St.strBytes Tryd.underlying9 Tryd.underlying33 Tryd.underlying5 rfl (by rw [bs_size]; omega)) (by decide) fun v64 w12 hR12 => ?_   -- convert 9 33 t63
    obtain ⟨hO64, hx12, hf64⟩ := hR12
    rw [bs_toList] at hO64
    have hS := hS.thenExt hx12
    refine ⟨hS, ?_⟩
    refine RH.one 2 (by kernel_rfl) ?_
    refine RS.call rfl (fun _ _ h => by cases h) Tryd.func12 rfl rfl rfl (sum_any _ o.2 _ hO64.by (fun _ k hk => hO64.lt k hk) (hK.ext hS) (by omega)) (by decide) fun v65 w13 hR13 => ?_   -- call F12(t64) : 33
    obtain ⟨rfl, hx13⟩ := hR13
    have hS := hS.thenExt hx13
    refine ⟨hS, ?_⟩
    refine RH.take 7 (fun _ _ _ _ h => h) (by kernel_rfl) hS rfl (by kernel_rfl) (by kernel_rfl) (fun wq hq => Y.neq_apiDigest rfl rfl) (by decide) ?_   -- t70 := binOp neq 31 t65 t69 31
    refine RH.done (by kernel_rfl) ?_
    have hx14 := hS; have hz14 := hx14.size; have hE := hE.thenExt hx14; have hK := hK.ext hx14
    refine hK28 _ _ ?_; try clear hK28 K28
    first | refine CW.condD rfl (fun ht29 => ?_) (fun ht29 => ?_) | refine CW.condND rfl (fun ht29 => ?_) (fun ht29 => ?_) | refine CW.condN rfl (fun ht29 => ?_) (fun ht29 => ?_) | refine CW.cond rfl (fun ht29 => ?_) (fun ht29 => ?_)
    · -- then
      refine CW.seq fun K30 hK30 => ?_
      refine CW.region ?_   -- region 18
      refine WL.val (Y.assign rfl) (by decide) ?_   -- t2 := assign c(false)
      refine WL.nil ?_
      refine hK30 _ _ ?_; try clear hK30 K30
      refine CW.ret ⟨_, rfl, ?_⟩
      exact absurd ho1 (by simpa using ht29)
    -- else
    refine CW.skip ?_
    refine hK27 _ _ ?_; try clear hK27 K27
    refine CW.seq fun K31 hK31 => ?_
    refine CW.region ?_   -- region 19
    refine WL.val (Y.assign rfl) (by decide) ?_   -- t12 := assign c(false)
    refine WL.nil ?_
    refine hK31 _ _ ?_; try clear hK31 K31
    refine CW.seq fun K32 hK32 => ?_
    refine CW.seq fun K33 hK33 => ?_
    refine CW.region ?_   -- region 20
    refine WL.val (Y.move rfl) (by decide) ?_   -- t71 := move t0
    refine WL.val (Y.len_slice Tryd.underlying22 rfl) (by decide) ?_   -- t72 := call len(t71) : 22
    refine WL.val (Y.move rfl) (by decide) ?_   -- t73 := move c(0:i64)
    refine WL.nil ?_
    refine hK33 _ _ ?_; try clear hK33 K33
    refine CW.block ?_   -- block 4
    refine CW.loop (X := Nat) (fun x => [(0, .slice A m c), (7, .slice (some a9) m9 c9), (12, .bool (decide (o.2 ∈ xs.take x))), (11, .string (bs o.2)), (56, .slice (some a3) m3 c3), (57, .int .i64 (m3 : Int)), (58, .int .i64 (y : Int)), (71, .slice A m c), (72, .int .i64 (m : Int)), (73, .int .i64 (x : Int))]) (fun x w0 => x ≤ xs.length ∧ Ext w w0 ∧ Mem w0 ⟨0, 0, none⟩ (wds keysL) ∧ Own w0 TStr 1 (.slice (some a3) m3 c3) (flatS ((objs ls).map (·.2))) ∧ Own w0 TDg 32 (.slice (some a9) m9 c9) (flatD (keysOf xs))) (fun x => xs.length - x) 0 (by repeat (first | exact Fr.le.nil | refine Fr.le.cons rfl ?_)) ⟨Nat.zero_le _, hE, hK, hO.ext hx14, hV.ext hx14⟩ ?_
    intro x w15 hl15
    rename Nat => z
    clear hK hE hO hV
    obtain ⟨hz, hE, hK, hO, hV⟩ := hl15
    refine CW.seq fun K34 hK34 => ?_
    refine CW.region ?_   -- region 21
    refine WL.val (Y.lss rfl rfl) (by decide) ?_   -- t74 := binOp lss 3 t73 t72 3
    refine WL.nil ?_
    refine hK34 _ _ ?_; try clear hK34 K34
    refine CW.seq fun K35 hK35 => ?_
    first | refine CW.condD rfl (fun ht36 => ?_) (fun ht36 => ?_) | refine CW.condND rfl (fun ht36 => ?_) (fun ht36 => ?_) | refine CW.condN rfl (fun ht36 => ?_) (fun ht36 => ?_) | refine CW.cond rfl (fun ht36 => ?_) (fun ht36 => ?_)
    · -- then
      refine CW.skip ?_
      refine hK35 _ _ ?_; try clear hK35 K35
      refine CW.seq fun K37 hK37 => ?_
      obtain ⟨p, hp⟩ : ∃ p, xs[z]? = some p := ⟨_, List.getElem?_eq_getElem (by omega)⟩
      obtain ⟨a, rfl, hmp⟩ := (hu.ext hE).at hp
      refine CW.block ?_   -- block 5
      refine CW.seq fun K38 hK38 => ?_
      refine CW.region ?_   -- region 22
      refine WL.val (Y.indexAddrN Tryd.underlying22 rfl rfl sz0_string (by omega)) (by decide) ?_   -- t75 := indexAddr 22 t71 t73
      refine WL.val (Y.load1 Tryd.underlying9 rfl hmp.cell0 rfl) (by decide) ?_   -- t76 := load 9 t75
      refine WL.val (Y.assign rfl) (by decide) ?_   -- t14 := assign t76
      refine WL.nil ?_
      refine hK38 _ _ ?_; try clear hK38 K38
      refine CW.region ?_   -- region 23
      refine WL.val (Y.move rfl) (by decide) ?_   -- t77 := move t12
      refine WL.val (Y.move rfl) (by decide) ?_   -- t78 := move t77
      first | refine WL.casesD (d := 78) rfl (fun hg78 => ?_) (fun hg78 => ?_) | refine WL.casesND (d := 78) rfl (fun hg78 => ?_) (fun hg78 => ?_) | refine WL.cases (d := 78) rfl (fun hg78 => ?_) (fun hg78 => ?_)
      · -- t78 = T
        refine WL.goff rfl rfl (by decide) ?_   -- t79 := move t11 [if 1=false]
        refine WL.goff rfl rfl (by decide) ?_   -- t80 := move t14 [if 1=false]
        refine WL.goff rfl rfl (by decide) ?_   -- t81 := binOp eql 9 t79 t80 9 [if 1=false]
        refine WL.val (Y.pick rfl rfl) (by decide) ?_   -- t82 := pick t78 c(true) t81
        refine WL.val (Y.assign rfl) (by decide) ?_   -- t12 := assign t82
        refine WL.nil ?_
        refine hK37 _ _ ?_; try clear hK37 K37
        refine CW.region ?_   -- region 24
        refine WL.val (Y.add rfl rfl ⟨by omega, by omega⟩) (by decide) ?_   -- t83 := binOp add 3 t73 c(1:i64) 3
        refine WL.val (Y.move rfl) (by decide) ?_   -- t73 := move t83
        refine WL.nil ?_
        have e9 : decide (o.2 ∈ xs.take (z + 1)) = true := decide_eq_true (by rw [take_succ hp]; exact List.mem_append_left _ hg78)
        refine ⟨z + 1, by show xs.length - (z + 1) < xs.length - z; omega, ?_, by show z + 1 ≤ xs.length; omega, hE, hK, hO, hV⟩
        rw [e9]
        exact (by repeat (first | exact Fr.le.nil | refine Fr.le.cons rfl ?_))
      · -- t78 = F
        refine WL.gval rfl rfl (Y.move rfl) (by decide) ?_   -- t79 := move t11 [if 1=false]
        refine WL.gval rfl rfl (Y.move rfl) (by decide) ?_   -- t80 := move t14 [if 1=false]
        refine WL.gval rfl rfl (Y.eql_string rfl rfl) (by decide) ?_   -- t81 := binOp eql 9 t79 t80 9 [if 1=false]
        refine WL.val (Y.pick rfl rfl) (by decide) ?_   -- t82 := pick t78 c(true) t81
        refine WL.val (Y.assign rfl) (by decide) ?_   -- t12 := assign t82
        refine WL.nil ?_
        refine hK37 _ _ ?_; try clear hK37 K37
        refine CW.region ?_   -- region 24
        refine WL.val (Y.add rfl rfl ⟨by omega, by omega⟩) (by decide) ?_   -- t83 := binOp add 3 t73 c(1:i64) 3
        refine WL.val (Y.move rfl) (by decide) ?_   -- t73 := move t83
        refine WL.nil ?_
        have e9 : decide (o.2 ∈ xs.take (z + 1)) = ((bs o.2).toList == (bs p).toList) := by rw [take_succ hp, Bool.eq_iff_iff]; simp [hg78, bs_toList]
        refine ⟨z + 1, by show xs.length - (z + 1) < xs.length - z; omega, ?_, by show z + 1 ≤ xs.length; omega, hE, hK, hO, hV⟩
        rw [e9]
        exact (by repeat (first | exact Fr.le.nil | refine Fr.le.cons rfl ?_))
    -- else
    refine CW.exit ?_   -- exit 4
    refine hK32 _ _ ?_; try clear hK32 K32
    refine CW.seq fun K39 hK39 => ?_
    refine CW.region ?_   -- region 25
    refine WL.val (Y.move rfl) (by decide) ?_   -- t84 := move t12
    refine WL.val (Y.not rfl) (by decide) ?_   -- t85 := unOp not 4 t84
    refine WL.nil ?_
    refine hK39 _ _ ?_; try clear hK39 K39
    first | refine CW.condD rfl (fun ht40 => ?_) (fun ht40 => ?_) | refine CW.condND rfl (fun ht40 => ?_) (fun ht40 => ?_) | refine CW.condN rfl (fun ht40 => ?_) (fun ht40 => ?_) | refine CW.cond rfl (fun ht40 => ?_) (fun ht40 => ?_)
    · -- then
      refine CW.seq fun K41 hK41 => ?_
      refine CW.region ?_   -- region 26
      refine WL.val (Y.assign rfl) (by decide) ?_   -- t2 := assign c(false)
      refine WL.nil ?_
      refine hK41 _ _ ?_; try clear hK41 K41
      refine CW.ret ⟨_, rfl, ?_⟩
      exact absurd ho3 (by have h1 : xs.take z = xs := List.take_of_length_le (by omega); rw [← h1]; simpa using ht40)
    -- else
    refine CW.skip ?_
    refine hK25 _ _ ?_; try clear hK25 K25
    refine CW.region ?_   -- region 27
    refine WL.val (Y.add rfl rfl ⟨by omega, by omega⟩) (by decide) ?_   -- t86 := binOp add 3 t58 c(1:i64) 3
    refine WL.val (Y.move rfl) (by decide) ?_   -- t58 := move t86
    refine WL.nil ?_
    exact ⟨y + 1, by show (objs ls).length - (y + 1) < (objs ls).length - y; omega, (by repeat (first | exact Fr.le.nil | refine Fr.le.cons rfl ?_)), by show y + 1 ≤ (objs ls).length; omega, hE, hK, hO, hV⟩
  -- else
  refine CW.exit ?_   -- exit 2
  refine hK20 _ _ ?_; try clear hK20 K20
  refine CW.seq fun K42 hK42 => ?_
  refine CW.region ?_   -- region 28
  refine WL.call Tryd.func10 rfl rfl rfl (palive_any _ hK) (by simp) ?_; rintro v87 w16 hR16   -- t87 := call F10() : 
  obtain ⟨rfl, hx16⟩ := hR16
  have hz16 := hx16.size
  have hE := hE.thenExt hx16
  have hK := hK.ext hx16
  refine WL.val (Y.assign rfl) (by decide) ?_   -- t2 := assign t87
  refine WL.nil ?_
  refine hK42 _ _ ?_; try clear hK42 K42
  refine CW.ret ⟨_, rfl, ?_⟩
  exact ⟨rfl, hE⟩
end Go.Proofs.YtoncdfpohdchgaaDoor

/- recensionlaw12's PackOnce, walked, for lists of a bounded length. -/
namespace Go.Proofs.YtoncdfpohdchgaaDoor
open Go.RowKit Go.Fw Go.Pl Go.Sort
theorem TkOk.same {xs ys : List (List UInt8)} (h : TkOk xs) (hm : ∀ b, b ∈ xs ↔ b ∈ ys) : TkOk ys := by
  have hk : keysOf ys = keysOf xs := up_eq (keysOf_up _) (keysOf_up _) fun d => by
    rw [keysOf_mem, keysOf_mem]
    exact ⟨fun ⟨b, hb, e⟩ => ⟨b, (hm b).2 hb, e⟩, fun ⟨b, hb, e⟩ => ⟨b, (hm b).1 hb, e⟩⟩
  exact ⟨fun b hb => h.short b ((hm b).2 hb), fun x hx y hy => h.coll x ((hm x).2 hx) y ((hm y).2 hy), by rw [hk]; exact h.few⟩
/-- The order in which texts are written, and how often, turns nothing. -/
theorem wr_same {xs ys : List (List UInt8)} (hm : ∀ b, b ∈ xs ↔ b ∈ ys) {p q : List UInt8} {e f : Int} (h : WrAns xs p e) (k : WrAns ys q f) : (e ≠ 0 ∧ f ≠ 0) ∨ (e = f ∧ p = q) := by
  obtain ⟨h, _⟩ | ⟨l, hl, hls, hlf, hlq⟩ := h
  · obtain ⟨k, _⟩ | ⟨m, hm2, hms, hmf, _⟩ := k
    · obtain ⟨_, _, _, _, _, _, _, _, h0⟩ := h
      obtain ⟨_, _, _, _, _, _, _, _, k0⟩ := k
      exact .inl ⟨h0, k0⟩
    · exact absurd ((holds_ok hm2 hms hmf).same fun b => (hm b).symm) (tkErr_no h)
  · obtain ⟨k, _⟩ | ⟨m, hm2, hms, hmf, hmq⟩ := k
    · exact absurd ((holds_ok hl hls hlf).same hm) (tkErr_no k)
    · rw [objs_same hl.keys hm2.keys (hl.same hm2 hm), ← hmq] at hlq
      injection hlq with h1 h2
      exact .inr ⟨h2, h1⟩

set_option maxRecDepth 20000 in
set_option maxHeartbeats 2000000 in
theorem packOnce_any (u : Value) (xs : List (List UInt8)) (by_ : Int) (w : World) (hu : Sl w strC 1 u xs) (hs : ∀ x ∈ xs, x.length ≤ 140737488351232) (hn : xs.length ≤ 1048576) (hi : InI64 by_) (hK : Mem w ⟨0, 0, none⟩ (wds keysL)) : Calls Tryd.prog 4 #[u, .int .i64 by_] w (Ret fun r w' => r = .bool true ∧ Ext w w') := by
  have hk0 : (0 : Nat) < w.heap.size := hK.lt (fun h => by cases h)
  obtain ⟨A, m, c, rfl, hm, hmc, hcm, hux⟩ := id hu
  refine calls_of_CW 81 [4] [(0, .slice A m c), (1, .int .i64 by_)] Tryd.func4 rfl rfl rfl (by simp) args2 ?_
  have hE : Ext w w := Chg.refl
  refine CW.seq fun K1 hK1 => ?_
  refine CW.region ?_   -- region 0
  refine WL.val (Y.assign rfl) (by decide) ?_   -- t4 := assign c(false)
  refine WL.nil ?_
  refine hK1 _ _ ?_; try clear hK1 K1
  refine CW.seq fun K2 hK2 => ?_
  refine CW.seq fun K3 hK3 => ?_
  refine CW.region ?_   -- region 1
  refine WL.val (Y.move rfl) (by decide) ?_   -- t11 := move t0
  refine WL.val (Y.len_slice Tryd.underlying22 rfl) (by decide) ?_   -- t12 := call len(t11) : 22
  refine WL.val (Y.eql rfl rfl) (by decide) ?_   -- t13 := binOp eql 3 t12 c(0:i64) 3
  refine WL.nil ?_
  refine hK3 _ _ ?_; try clear hK3 K3
  first | refine CW.condD rfl (fun ht4 => ?_) (fun ht4 => ?_) | refine CW.condND rfl (fun ht4 => ?_) (fun ht4 => ?_) | refine CW.condN rfl (fun ht4 => ?_) (fun ht4 => ?_) | refine CW.cond rfl (fun ht4 => ?_) (fun ht4 => ?_)
  · -- then
    refine CW.seq fun K5 hK5 => ?_
    refine CW.region ?_   -- region 2
    refine WL.call Tryd.func10 rfl rfl rfl (palive_any _ hK) (by simp) ?_; rintro v14 w1 hR1   -- t14 := call F10() : 
    obtain ⟨rfl, hx1⟩ := hR1
    have hz1 := hx1.size
    have hE := hE.thenExt hx1
    have hK := hK.ext hx1
    refine WL.val (Y.assign rfl) (by decide) ?_   -- t4 := assign t14
    refine WL.nil ?_
    refine hK5 _ _ ?_; try clear hK5 K5
    refine CW.ret ⟨_, rfl, ?_⟩
    exact ⟨rfl, hE⟩
  -- else
  refine CW.skip ?_
  refine hK2 _ _ ?_; try clear hK2 K2
  have hmp : (0 : Int) < (m : Int) := by omega
  have hrange := tmod_in (i := by_) hmp
  obtain ⟨j, hj, hjl⟩ := round_at (i := by_) (n := m) (by omega)
  refine CW.seq fun K6 hK6 => ?_
  refine CW.region ?_   -- region 3
  refine WL.val (Y.move rfl) (by decide) ?_   -- t15 := move t1
  refine WL.val (Y.move rfl) (by decide) ?_   -- t16 := move t0
  refine WL.val (Y.len_slice Tryd.underlying22 rfl) (by decide) ?_   -- t17 := call len(t16) : 22
  refine WL.val (Y.rem rfl rfl (by omega)) (by decide) ?_   -- t18 := binOp rem 3 t15 t17 3
  refine WL.val (Y.move rfl) (by decide) ?_   -- t19 := move t0
  refine WL.val (Y.len_slice Tryd.underlying22 rfl) (by decide) ?_   -- t20 := call len(t19) : 22
  refine WL.val (Y.add rfl rfl ⟨by omega, by omega⟩) (by decide) ?_   -- t21 := binOp add 3 t18 t20 3
  refine WL.val (Y.move rfl) (by decide) ?_   -- t22 := move t0
  refine WL.val (Y.len_slice Tryd.underlying22 rfl) (by decide) ?_   -- t23 := call len(t22) : 22
  refine WL.val (Y.rem rfl rfl (by omega)) (by decide) ?_   -- t24 := binOp rem 3 t21 t23 3
  refine WL.val (Y.assign rfl) (by decide) ?_   -- t1 := assign t24
  refine WL.nil ?_
  refine hK6 _ _ ?_; try clear hK6 K6
  refine CW.seq fun K7 hK7 => ?_
  refine CW.region ?_   -- region 4
  refine WL.val (Y.assign rfl) (by decide) ?_   -- t5 := assign c(nilslice)
  refine WL.nil ?_
  refine hK7 _ _ ?_; try clear hK7 K7
  refine CW.seq fun K8 hK8 => ?_
  refine CW.seq fun K9 hK9 => ?_
  refine CW.region ?_   -- region 5
  refine WL.val (Y.move rfl) (by decide) ?_   -- t25 := move t0
  refine WL.val (Y.len_slice Tryd.underlying22 rfl) (by decide) ?_   -- t26 := call len(t25) : 22
  refine WL.val (Y.move rfl) (by decide) ?_   -- t27 := move c(0:i64)
  refine WL.nil ?_
  refine hK9 _ _ ?_; try clear hK9 K9
  refine CW.block ?_   -- block 0
  refine CW.loop (X := Nat × Value × List (List UInt8)) (fun x => [(0, .slice A m c), (1, .int .i64 ((by_.tmod (m : Int) + (m : Int)).tmod (m : Int))), (5, x.2.1), (25, .slice A m c), (26, .int .i64 (m : Int)), (27, .int .i64 (x.1 : Int))]) (fun x w0 => x.1 ≤ xs.length ∧ Ext w w0 ∧ Mem w0 ⟨0, 0, none⟩ (wds keysL) ∧ Own w0 TStr 1 x.2.1 (flatS x.2.2) ∧ (∀ k, x.2.1.ownBlock = some k → w.heap.size ≤ k) ∧ x.2.2.length = 2 * x.1 ∧ (∀ b ∈ x.2.2, b ∈ xs) ∧ (∀ b ∈ xs.take x.1, b ∈ x.2.2)) (fun x => xs.length - x.1) (0, .slice none 0 0, []) (by repeat (first | exact Fr.le.nil | refine Fr.le.cons rfl ?_)) ⟨Nat.zero_le _, hE, hK, Own.nil, fun k h => by simp [Value.ownBlock] at h, rfl, (fun b h => nomatch h), (fun b h => nomatch h)⟩ ?_
  intro x w2 hl2
  obtain ⟨x, v, ys⟩ := x
  clear hK hE
  obtain ⟨hx, hE, hK, hV, hvw, hyl, hy1, hy2⟩ := hl2
  dsimp only at hx hV hvw hyl hy1 hy2 ⊢
  refine CW.seq fun K10 hK10 => ?_
  refine CW.region ?_   -- region 6
  refine WL.val (Y.lss rfl rfl) (by decide) ?_   -- t28 := binOp lss 3 t27 t26 3
  refine WL.nil ?_
  refine hK10 _ _ ?_; try clear hK10 K10
  refine CW.seq fun K11 hK11 => ?_
  first | refine CW.condD rfl (fun ht12 => ?_) (fun ht12 => ?_) | refine CW.condND rfl (fun ht12 => ?_) (fun ht12 => ?_) | refine CW.condN rfl (fun ht12 => ?_) (fun ht12 => ?_) | refine CW.cond rfl (fun ht12 => ?_) (fun ht12 => ?_)
  · -- then
    refine CW.skip ?_
    refine hK11 _ _ ?_; try clear hK11 K11
    refine CW.seq fun K13 hK13 => ?_
    obtain ⟨j2, hj2, hjl2⟩ : ∃ j2 : Nat, ((x : Int) + ((by_.tmod (m : Int) + (m : Int)).tmod (m : Int))).tmod (m : Int) = (j2 : Int) ∧ j2 < m := by
      have h2 := Int.tmod_nonneg (a := (x : Int) + ((by_.tmod (m : Int) + (m : Int)).tmod (m : Int))) (m : Int) (by omega)
      have h3 := Int.tmod_lt_of_pos ((x : Int) + ((by_.tmod (m : Int) + (m : Int)).tmod (m : Int))) hmp
      obtain ⟨j, hj⟩ := Int.eq_ofNat_of_zero_le h2
      exact ⟨j, hj, by omega⟩
    obtain ⟨p, hp⟩ : ∃ p, xs[x]? = some p := ⟨_, List.getElem?_eq_getElem (by omega)⟩
    obtain ⟨p2, hp2⟩ : ∃ p, xs[m - 1 - j2]? = some p := ⟨_, List.getElem?_eq_getElem (by omega)⟩
    obtain ⟨a, rfl, hmp1⟩ := hu.at hp
    obtain ⟨a2, ha2, hmp2⟩ := hu.at hp2
    cases ha2
    have hvl := hV.lt
    have hidx : ((m - 1 - j2 : Nat) : Int) = (m : Int) - 1 - ((x : Int) + ((by_.tmod (m : Int) + (m : Int)).tmod (m : Int))).tmod (m : Int) := by omega
    refine CW.block ?_   -- block 1
    refine CW.seq fun K14 hK14 => ?_
    refine CW.region ?_   -- region 7
    refine WL.val (Y.move rfl) (by decide) ?_   -- t29 := move t27
    refine WL.val (Y.assign rfl) (by decide) ?_   -- t6 := assign t29
    refine WL.nil ?_
    refine hK14 _ _ ?_; try clear hK14 K14
    refine CW.held (fun wq => Chg (fun k => v.ownBlock = some k) w2 wq) (by kernel_rfl) 21 rfl fun w3 hx3 => ?_
    have hS : Chg (fun k => v.ownBlock = some k) w2 w3 := hx3.chg
    have hV := hV.ext hx3
    refine RH.take 0 (fun _ _ _ _ h => h) (by kernel_rfl) hS rfl (by kernel_rfl) (by kernel_rfl) (fun wq hq => Y.move rfl) (by decide) ?_   -- t30 := move t5
    refine RH.take 1 (fun _ _ _ _ h => h) (by kernel_rfl) hS rfl (by kernel_rfl) (by kernel_rfl) (fun wq hq => Y.move rfl) (by decide) ?_   -- t31 := move t0
    refine RH.take 2 (fun _ _ _ _ h => h) (by kernel_rfl) hS rfl (by kernel_rfl) (by kernel_rfl) (fun wq hq => Y.move rfl) (by decide) ?_   -- t32 := move t0
    refine RH.take 3 (fun _ _ _ _ h => h) (by kernel_rfl) hS rfl (by kernel_rfl) (by kernel_rfl) (fun wq hq => Y.len_slice Tryd.underlying22 rfl) (by decide) ?_   -- t33 := call len(t32) : 22
    refine RH.take 4 (fun _ _ _ _ h => h) (by kernel_rfl) hS rfl (by kernel_rfl) (by kernel_rfl) (fun wq hq => Y.sub rfl rfl ⟨by omega, by omega⟩) (by decide) ?_   -- t34 := binOp sub 3 t33 c(1:i64) 3
    refine RH.take 5 (fun _ _ _ _ h => h) (by kernel_rfl) hS rfl (by kernel_rfl) (by kernel_rfl) (fun wq hq => Y.move rfl) (by decide) ?_   -- t35 := move t6
    refine RH.take 6 (fun _ _ _ _ h => h) (by kernel_rfl) hS rfl (by kernel_rfl) (by kernel_rfl) (fun wq hq => Y.move rfl) (by decide) ?_   -- t36 := move t1
    refine RH.take 7 (fun _ _ _ _ h => h) (by kernel_rfl) hS rfl (by kernel_rfl) (by kernel_rfl) (fun wq hq => Y.add rfl rfl ⟨by omega, by omega⟩) (by decide) ?_   -- t37 := binOp add 3 t35 t36 3
    refine RH.take 8 (fun _ _ _ _ h => h) (by kernel_rfl) hS rfl (by kernel_rfl) (by kernel_rfl) (fun wq hq => Y.move rfl) (by decide) ?_   -- t38 := move t0
    refine RH.take 9 (fun _ _ _ _ h => h) (by kernel_rfl) hS rfl (by kernel_rfl) (by kernel_rfl) (fun wq hq => Y.len_slice Tryd.underlying22 rfl) (by decide) ?_   -- t39 := call len(t38) : 22
    refine RH.take 10 (fun _ _ _ _ h => h) (by kernel_rfl) hS rfl (by kernel_rfl) (by kernel_rfl) (fun wq hq => Y.rem rfl rfl (by omega)) (by decide) ?_   -- t40 := binOp rem 3 t37 t39 3
    refine RH.take 11 (fun _ _ _ _ h => h) (by kernel_rfl) hS rfl (by kernel_rfl) (by kernel_rfl) (fun wq hq => Y.sub rfl rfl ⟨by omega, by omega⟩) (by decide) ?_   -- t41 := binOp sub 3 t34 t40 3
    refine RH.take 12 (fun _ _ _ _ h => h) (by kernel_rfl) hS rfl (by kernel_rfl) (by kernel_rfl) (fun wq hq => Y.indexAddrN Tryd.underlying22 rfl (by rw [hidx]; rfl) sz0_string (by omega) (i := m - 1 - j2)) (by decide) ?_   -- t42 := indexAddr 22 t31 t41
    refine RH.take 13 (fun _ _ _ _ h => h) (by kernel_rfl) hS rfl (by kernel_rfl) (by kernel_rfl) (fun wq hq => Y.load1 Tryd.underlying9 rfl (hmp2.ext (hE.step hq (fun k h => hvw k h))).cell0 rfl) (by decide) ?_   -- t43 := load 9 t42
    refine RH.take 14 (fun _ _ _ _ h => h) (by kernel_rfl) hS rfl (by kernel_rfl) (by kernel_rfl) (fun wq hq => Y.move rfl) (by decide) ?_   -- t44 := move t0
    refine RH.take 15 (fun _ _ _ _ h => h) (by kernel_rfl) hS rfl (by kernel_rfl) (by kernel_rfl) (fun wq hq => Y.move rfl) (by decide) ?_   -- t45 := move t6
    refine RH.take 16 (fun _ _ _ _ h => h) (by kernel_rfl) hS rfl (by kernel_rfl) (by kernel_rfl) (fun wq hq => Y.indexAddrN Tryd.underlying22 rfl rfl sz0_string (by omega)) (by decide) ?_   -- t46 := indexAddr 22 t44 t45
    refine RH.take 17 (fun _ _ _ _ h => h) (by kernel_rfl) hS rfl (by kernel_rfl) (by kernel_rfl) (fun wq hq => Y.load1 Tryd.underlying9 rfl (hmp1.ext (hE.step hq (fun k h => hvw k h))).cell0 rfl) (by decide) ?_   -- t47 := load 9 t46
    refine RH.one 18 (by kernel_rfl) ?_
    refine RS.st rfl (St.buildSlice rfl (bs2_strp _ _)) (by decide) fun v48 w4 hR4 => ?_   -- buildSlice 22 2 [(0,t43), (1,t47)]
    obtain ⟨g48, rfl, hg48, hB48, hx4⟩ := hR4
    have hz4 := hx4.size
    have hzS := hS.size
    have hV := hV.ext hx4
    have hS := hS.thenExt hx4
    refine ⟨hS, ?_⟩
    refine RH.one 19 (by kernel_rfl) ?_
    refine RS.st rfl (St.append Tryd.underlying22 Tryd.underlying22 ai_str rfl rfl hV (Src.slice (m := 2) (k := 1) rfl fun _ => ⟨_, rfl, hB48.mem⟩) (by intro u hu_; simp at hu_; rcases hu_ with rfl | rfl <;> rfl) (by rw [flat_length strC_length]; omega)) (by decide) fun v49 w5 hR5 => ?_   -- call append(t30, t48) : 22,22
    obtain ⟨hV, hc5, hf5⟩ := hR5
    have hz5 := hc5.size
    have hS := hS.trans hc5 (fun k _ h => h)
    have hvw2 : ∀ k, v49.ownBlock = some k → w.heap.size ≤ k := by
      have := hE.size
      rcases hf5 with h | h
      · intro k hk; rw [h] at hk; exact hvw k hk
      · intro k hk; have := h k hk; omega
    refine ⟨hS, ?_⟩
    refine RH.take 20 (fun _ _ _ _ h => h) (by kernel_rfl) hS rfl (by kernel_rfl) (by kernel_rfl) (fun wq hq => Y.assign rfl) (by decide) ?_   -- t5 := assign t49
    refine RH.done (by kernel_rfl) ?_
    have hE := hE.step hS (fun k h => hvw k h)
    have hK := hK.chg hS (fun h => by have h1 := hvw _ h; change w.heap.size ≤ 0 at h1; omega)
    refine hK13 _ _ ?_; try clear hK13 K13
    refine CW.region ?_   -- region 9
    refine WL.val (Y.add rfl rfl ⟨by omega, by omega⟩) (by decide) ?_   -- t50 := binOp add 3 t27 c(1:i64) 3
    refine WL.val (Y.move rfl) (by decide) ?_   -- t27 := move t50
    refine WL.nil ?_
    refine ⟨(x + 1, v49, ys ++ [p2, p]), by show xs.length - (x + 1) < xs.length - x; omega, (by repeat (first | exact Fr.le.nil | refine Fr.le.cons rfl ?_)), by show x + 1 ≤ xs.length; omega, hE, hK, ?_, hvw2, by show (ys ++ [p2, p]).length = 2 * (x + 1); rw [List.length_append, hyl]; simp; omega, ?_, ?_⟩
    · show Own _ _ _ _ (flatS (ys ++ [p2, p]))
      simpa [flatS, strC] using hV
    · intro b hb
      rcases List.mem_append.1 hb with hb | hb
      · exact hy1 b hb
      · simp at hb
        rcases hb with rfl | rfl
        · exact List.mem_of_getElem? hp2
        · exact List.mem_of_getElem? hp
    · intro b hb
      change b ∈ xs.take (x + 1) at hb
      rw [take_succ hp] at hb
      rcases List.mem_append.1 hb with hb | hb
      · exact List.mem_append_left _ (hy2 b hb)
      · simp at hb; subst hb; simp
  -- else
  have htk : xs.take x = xs := List.take_of_length_le (by omega)
  rw [htk] at hy2
  have hmem : ∀ b, b ∈ xs ↔ b ∈ ys := fun b => ⟨hy2 b, hy1 b⟩
  refine CW.exit ?_   -- exit 0
  refine hK8 _ _ ?_; try clear hK8 K8
  refine CW.seq fun K15 hK15 => ?_
  refine CW.region ?_   -- region 10
  refine WL.val (Y.move rfl) (by decide) ?_   -- t52 := move t0
  refine WL.call Tryd.func9 rfl rfl rfl (pwrite_any _ xs _ (hu.ext hE) hs hK) (by simp) ?_; rintro v53 w6 hR6   -- t53 := call F9(t52) : 22
  obtain ⟨⟨q, e, rfl, hW⟩, hx7⟩ := hR6
  have hz7 := hx7.size
  have hE := hE.thenExt hx7
  have hK := hK.ext hx7
  have hV := hV.ext hx7
  refine WL.val (Y.move rfl) (by decide) ?_   -- t51 := move t53
  refine WL.val (Y.extract rfl rfl) (by decide) ?_   -- t54 := extract t51 0
  refine WL.val (Y.extract rfl rfl) (by decide) ?_   -- t55 := extract t51 1
  refine WL.val (Y.assign rfl) (by decide) ?_   -- t7 := assign t54
  refine WL.val (Y.assign rfl) (by decide) ?_   -- t8 := assign t55
  refine WL.nil ?_
  refine hK15 _ _ ?_; try clear hK15 K15
  refine CW.seq fun K16 hK16 => ?_
  refine CW.region ?_   -- region 11
  refine WL.val (Y.move rfl) (by decide) ?_   -- t57 := move t5
  refine WL.call Tryd.func9 rfl rfl rfl (pwrite_any _ ys _ (hV.sl strC_length (by decide)) (fun b hb => hs b (hy1 b hb)) hK) (by simp) ?_; rintro v58 w7 hR7   -- t58 := call F9(t57) : 22
  obtain ⟨⟨q2, e2, rfl, hW2⟩, hx8⟩ := hR7
  have hz8 := hx8.size
  have hE := hE.thenExt hx8
  have hK := hK.ext hx8
  have hsame := wr_same hmem hW hW2
  refine WL.val (Y.move rfl) (by decide) ?_   -- t56 := move t58
  refine WL.val (Y.extract rfl rfl) (by decide) ?_   -- t59 := extract t56 0
  refine WL.val (Y.extract rfl rfl) (by decide) ?_   -- t60 := extract t56 1
  refine WL.val (Y.assign rfl) (by decide) ?_   -- t9 := assign t59
  refine WL.val (Y.assign rfl) (by decide) ?_   -- t10 := assign t60
  refine WL.nil ?_
  refine hK16 _ _ ?_; try clear hK16 K16
  refine CW.seq fun K17 hK17 => ?_
  refine CW.seq_test 66 (¬ e = 0 ∨ ¬ e2 = 0) ?_ ?_
  · refine CW.region ?_
    refine WL.val (Y.move rfl) (by decide) ?_   -- t61 := move t8
    refine WL.val (Y.neq rfl rfl) (by decide) ?_   -- t62 := binOp neq 23 t61 c(0:i64) 23
    refine WL.val (Y.move rfl) (by decide) ?_   -- t63 := move t62
    first | refine WL.casesD (d := 63) rfl (fun hg63 => ?_) (fun hg63 => ?_) | refine WL.casesND (d := 63) rfl (fun hg63 => ?_) (fun hg63 => ?_) | refine WL.cases (d := 63) rfl (fun hg63 => ?_) (fun hg63 => ?_)
    · -- t63 = T
      refine WL.goff rfl rfl (by decide) ?_   -- t64 := move t10 [if 2=false]
      refine WL.goff rfl rfl (by decide) ?_   -- t65 := binOp neq 23 t64 c(0:i64) 23 [if 2=false]
      refine WL.val (Y.pick rfl rfl) (by decide) ?_   -- t66 := pick t63 c(true) t65
      refine WL.nil ⟨⟨_, rfl, ?_⟩, rfl, (by repeat (first | exact Fr.le.refl | refine Fr.le.push rfl ?_))⟩
      first | (simp only [*, Int.natCast_inj, Bool.not_eq_true', decide_eq_false_iff_not, decide_eq_true_eq, not_true_eq_false, not_false_eq_true, true_and, false_and, and_true, and_false, false_or, or_false, true_or, or_true, iff_true, true_iff, iff_false, false_iff]; done) | (simp_all; done) | (refine congrArg Value.bool (Bool.eq_iff_iff.2 ?_); simp_all; done) | (simp_all; omega)
    · -- t63 = F
      refine WL.gval rfl rfl (Y.move rfl) (by decide) ?_   -- t64 := move t10 [if 2=false]
      refine WL.gval rfl rfl (Y.neq rfl rfl) (by decide) ?_   -- t65 := binOp neq 23 t64 c(0:i64) 23 [if 2=false]
      refine WL.val (Y.pick rfl rfl) (by decide) ?_   -- t66 := pick t63 c(true) t65
      refine WL.nil ⟨⟨_, rfl, ?_⟩, rfl, (by repeat (first | exact Fr.le.refl | refine Fr.le.push rfl ?_))⟩
      first | (simp only [*, Int.natCast_inj, Bool.not_eq_true', decide_eq_false_iff_not, decide_eq_true_eq, not_true_eq_false, not_false_eq_true, true_and, false_and, and_true, and_false, false_or, or_false, true_or, or_true, iff_true, true_iff, iff_false, false_iff]; done) | (simp_all; done) | (refine congrArg Value.bool (Bool.eq_iff_iff.2 ?_); simp_all; done) | (simp_all; omega)
  first | refine CW.condD rfl (fun ht18 => ?_) (fun ht18 => ?_) | refine CW.condND rfl (fun ht18 => ?_) (fun ht18 => ?_) | refine CW.condN rfl (fun ht18 => ?_) (fun ht18 => ?_) | refine CW.cond rfl (fun ht18 => ?_) (fun ht18 => ?_)
  · -- then
    refine CW.seq fun K19 hK19 => ?_
    refine CW.region ?_   -- region 13
    refine WL.val (Y.move rfl) (by decide) ?_   -- t67 := move t8
    refine WL.val (Y.neq rfl rfl) (by decide) ?_   -- t68 := binOp neq 23 t67 c(0:i64) 23
    refine WL.val (Y.move rfl) (by decide) ?_   -- t69 := move t10
    refine WL.val (Y.neq rfl rfl) (by decide) ?_   -- t70 := binOp neq 23 t69 c(0:i64) 23
    refine WL.val (Y.eql_bool Tryd.underlying4 rfl rfl) (by decide) ?_   -- t71 := binOp eql 4 t68 t70 4
    refine WL.val (Y.move rfl) (by decide) ?_   -- t72 := move t71
    first | refine WL.casesD (d := 72) rfl (fun hg72 => ?_) (fun hg72 => ?_) | refine WL.casesND (d := 72) rfl (fun hg72 => ?_) (fun hg72 => ?_) | refine WL.cases (d := 72) rfl (fun hg72 => ?_) (fun hg72 => ?_)
    · -- t72 = T
      refine WL.gcall rfl rfl Tryd.func10 rfl rfl rfl (palive_any _ hK) (by decide) ?_; rintro v73 w8 hR8   -- t73 := call F10() :  [if 5=true]
      obtain ⟨rfl, hx8⟩ := hR8
      have hz8 := hx8.size
      have hE := hE.thenExt hx8
      have hK := hK.ext hx8
      refine WL.val (Y.pick rfl rfl) (by decide) ?_   -- t74 := pick t72 t73 c(false)
      refine WL.val (Y.assign rfl) (by decide) ?_   -- t4 := assign t74
      refine WL.nil ?_
      refine hK19 _ _ ?_; try clear hK19 K19
      refine CW.ret ⟨_, rfl, ?_⟩
      exact ⟨rfl, hE⟩
    · -- t72 = F
      refine WL.goff rfl rfl (by decide) ?_   -- t73 := call F10() :  [if 5=true]
      refine WL.val (Y.pick rfl rfl) (by decide) ?_   -- t74 := pick t72 t73 c(false)
      refine WL.val (Y.assign rfl) (by decide) ?_   -- t4 := assign t74
      refine WL.nil ?_
      refine hK19 _ _ ?_; try clear hK19 K19
      refine CW.ret ⟨_, rfl, ?_⟩
      exact absurd hg72 (by rcases hsame with ⟨h1, h2⟩ | ⟨h1, h2⟩ <;> simp_all)
  -- else
  refine CW.skip ?_
  refine hK17 _ _ ?_; try clear hK17 K17
  refine CW.seq fun K20 hK20 => ?_
  refine CW.region ?_   -- region 14
  refine WL.val (Y.move rfl) (by decide) ?_   -- t75 := move t7
  refine WL.val (Y.move rfl) (by decide) ?_   -- t76 := move t9
  refine WL.val (Y.eql_string rfl rfl) (by decide) ?_   -- t77 := binOp eql 9 t75 t76 9
  refine WL.val (Y.move rfl) (by decide) ?_   -- t78 := move t77
  first | refine WL.casesD (d := 78) rfl (fun hg78 => ?_) (fun hg78 => ?_) | refine WL.casesND (d := 78) rfl (fun hg78 => ?_) (fun hg78 => ?_) | refine WL.cases (d := 78) rfl (fun hg78 => ?_) (fun hg78 => ?_)
  · -- t78 = T
    refine WL.gcall rfl rfl Tryd.func10 rfl rfl rfl (palive_any _ hK) (by decide) ?_; rintro v79 w9 hR9   -- t79 := call F10() :  [if 3=true]
    obtain ⟨rfl, hx9⟩ := hR9
    have hz9 := hx9.size
    have hE := hE.thenExt hx9
    have hK := hK.ext hx9
    refine WL.val (Y.pick rfl rfl) (by decide) ?_   -- t80 := pick t78 t79 c(false)
    refine WL.val (Y.assign rfl) (by decide) ?_   -- t4 := assign t80
    refine WL.nil ?_
    refine hK20 _ _ ?_; try clear hK20 K20
    refine CW.ret ⟨_, rfl, ?_⟩
    exact ⟨rfl, hE⟩
  · -- t78 = F
    refine WL.goff rfl rfl (by decide) ?_   -- t79 := call F10() :  [if 3=true]
    refine WL.val (Y.pick rfl rfl) (by decide) ?_   -- t80 := pick t78 t79 c(false)
    refine WL.val (Y.assign rfl) (by decide) ?_   -- t4 := assign t80
    refine WL.nil ?_
    refine hK20 _ _ ?_; try clear hK20 K20
    refine CW.ret ⟨_, rfl, ?_⟩
    exact absurd hg78 (by rcases hsame with ⟨h1, h2⟩ | ⟨h1, h2⟩ <;> simp_all)
end Go.Proofs.YtoncdfpohdchgaaDoor
