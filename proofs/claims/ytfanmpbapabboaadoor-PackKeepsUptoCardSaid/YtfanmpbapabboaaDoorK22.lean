/- Parts of a proof: what its last text leans on. No condition. -/
import Derived.Test.YtfanmpbapabboaaDoorK12
import Derived.Test.YtfanmpbapabboaaDoorK18
import Derived.Test.YtfanmpbapabboaaDoorK21
set_option linter.unusedSimpArgs false
set_option linter.unusedVariables false
/- The plain law of packs: what was written is read back; a spoilt byte, missing bytes. No condition; no program run. -/
namespace Go.Proofs.YtfanmpbapabboaaDoor
open Go.RowKit Go.Fw Go.Pl Go.Sort
theorem wRun_cons {o : Obj} {r : List Obj} {s s' : WS} (h : wRun (o :: r) s = some s') : ¬ 1048544 < (wStep s o).out.length ∧ wRun r (wStep s o) = some s' := by
 rw [wRun] at h
 split at h
 ·
  cases h
 ·
  rename_i hn; exact ⟨hn, h⟩
theorem wRun_pre : ∀ (os : List Obj) (s s' : WS), wRun os s = some s' → ∃ suf, s'.out = s.out ++ suf
 | [], s, s', h => by rw [wRun] at h; injection h with h; subst h; exact ⟨[], by simp⟩
 | o :: r, s, s', h => by
  obtain ⟨x, hx⟩ := wRun_pre r _ _ (wRun_cons h).2
  exact ⟨wPiece s o ++ x, by rw [hx]; show (s.out ++ wPiece s o) ++ x = _; rw [List.append_assoc]⟩
theorem wRun_len : ∀ (os : List Obj) (s s' : WS), wRun os s = some s' → s.out.length ≤ 1048544 → s'.out.length ≤ 1048544
 | [], s, s', h, hl => by rw [wRun] at h; injection h with h; subst h; exact hl
 | o :: r, s, s', h, _ => wRun_len r _ _ (wRun_cons h).2 (by have := (wRun_cons h).1; omega)
theorem behind_up {ids r : List Dig} {d : Dig} (h : Up (ids ++ d :: r)) : behind ids d = true := by
 unfold behind
 cases hx : ids.getLast? with
 | none => rfl
 | some x => exact (List.pairwise_append.1 h).2.2 _ (List.mem_of_getLast? hx) _ (List.mem_cons_self)
theorem toldK_pos {ahead b : List UInt8} {first : Bool} {depth : Nat} (h : toldK ahead b first depth = 1) : first = false ∧ depth < 4 ∧ apB ahead (toldB ahead b first depth) = (b, 0) := by
 have hn : ¬ (first = true ∨ 4 ≤ depth) := by intro hx; unfold toldK at h; rw [if_pos hx] at h; cases h
 obtain ⟨h1, h2⟩ := not_or.1 hn
 refine ⟨by simpa using h1, by omega, ?_⟩
 have hk := h
 unfold toldK at hk
 rw [if_neg hn] at hk
 split at hk
 ·
  cases hk
 rename_i h3
 obtain ⟨h4, _⟩ := not_or.1 h3
 have h5 : ¬ (4096 < ahead.length ∨ 4096 < b.length) := by
  intro hx; apply h4; unfold mkE; rw [if_pos hx]; decide
 obtain ⟨h6, h7⟩ := not_or.1 h5
 rw [toldB, if_neg (by rw [h]; decide), mkR, if_neg h5]
 exact apB_mk om_ om_
theorem robjs_wr (b : List UInt8) : ∀ (os : List Obj) (s s' : WS) (ids : List Dig) (l : List (List UInt8)), wRun os s = some s' → s'.out = b → (∀ o ∈ os, shaD o.2 = o.1 ∧ o.2.length ≤ 131072) → Up (ids ++ os.map (·.1)) → (ids = [] → s.first = true) → s.depth ≤ 4 →
  robjs b os.length ids l s.ahead s.depth s.out.length = .ok (l ++ os.map (·.2), b.length)
 | [], s, s', ids, l, h, hb, _, _, _, _ => by rw [wRun] at h; injection h with h; subst h; subst hb; simp [robjs]
 | o :: r, s, s', ids, l, h, hb, hok, hup, hf, hd => by
  obtain ⟨hn, hr⟩ := wRun_cons h
  obtain ⟨suf, hsuf⟩ := wRun_pre _ _ _ hr
  obtain ⟨ho1, ho2⟩ := hok o (List.mem_cons_self)
  obtain ⟨k, hk⟩ : ∃ k, k = toldK s.ahead o.2 s.first s.depth := ⟨_, rfl⟩
  obtain ⟨t, ht⟩ : ∃ t, t = toldB s.ahead o.2 s.first s.depth := ⟨_, rfl⟩
  have hk01 := toldK_cases s.ahead o.2 s.first s.depth
  rw [← hk] at hk01
  have htl : t.length ≤ 131072 := by have := toldB_len s.ahead o.2 s.first s.depth; rw [← ht] at this; omega
  have hbe : b = s.out ++ (o.1.1 ++ (vi k ++ (textB t ++ suf))) := by
   rw [← hb, hsuf]
   show (s.out ++ wPiece s o) ++ suf = _
   rw [wPiece, ← hk, ← ht]
   simp only [List.append_assoc]
  have g1 : gdig b s.out.length = .ok (o.1, s.out.length + 32) := by
   have := (rds_dig o.1).1 s.out (vi k ++ (textB t ++ suf))
   rw [← hbe, o.1.2] at this
   exact this
  have g2 : gnum b (s.out.length + 32) = .ok (k, s.out.length + 32 + (vi k).length) := by
   have := (rds_num (n := k) om_).1 (s.out ++ o.1.1) (textB t ++ suf)
   rw [List.length_append, o.1.2, List.append_assoc, ← hbe] at this
   exact this
  have g3 : gtext b (s.out.length + 32 + (vi k).length) = .ok (t, s.out.length + 32 + (vi k).length + (textB t).length) := by
   have := (rds_text (t := t) htl).1 (s.out ++ (o.1.1 ++ vi k)) suf
   rw [List.length_append, List.length_append, o.1.2, ← Nat.add_assoc] at this
   rw [show (s.out ++ (o.1.1 ++ vi k)) ++ (textB t ++ suf) = b by rw [hbe]; simp only [List.append_assoc]] at this
   exact this
  have hbh : behind ids o.1 = true := behind_up (r := r.map (·.1)) (by simpa using hup)
  have hk1 : k = 1 → s.first = false ∧ s.depth < 4 ∧ apB s.ahead t = (o.2, 0) := fun h1 => by rw [ht]; exact toldK_pos (by rw [← hk]; exact h1)
  have hkk : ¬ (1 < k ∨ (k = 1 ∧ ids = [])) := by
   rintro (h1 | ⟨h1, h2⟩)
   ·
    omega
   ·
    have h3 := hf h2; rw [(hk1 h1).1] at h3; cases h3
  have hdd : ¬ 4 < (s.depth + 1) * k := by
   rcases hk01 with h1 | h1
   ·
    rw [h1]; omega
   ·
    have := (hk1 h1).2.1; rw [h1]; omega
  have hrr : (k = 1 ∧ apB s.ahead t = (o.2, 0)) ∨ (k ≠ 1 ∧ o.2 = t) := by
   by_cases h1 : k = 1
   ·
    exact .inl ⟨h1, (hk1 h1).2.2⟩
   ·
    exact .inr ⟨h1, by rw [ht, toldB, if_pos (by rw [← hk]; omega)]⟩
  have hrob : robj b ids s.ahead s.depth s.out.length = .ok ((o.1, o.2, (s.depth + 1) * k), s.out.length + 32 + (vi k).length + (textB t).length) := by
   rw [robj_last g1 hbh g2 hkk hdd g3 hrr, if_neg (fun h1 => h1 ho1)]
  have hlen : s.out.length + 32 + (vi k).length + (textB t).length = (wStep s o).out.length := by
   show _ = (s.out ++ wPiece s o).length
   rw [List.length_append, wPiece, ← hk, ← ht, List.length_append, List.length_append, o.1.2]
   omega
  rw [List.length_cons, robjs_s hrob, hlen]
  have := robjs_wr b r (wStep s o) s' (ids ++ [o.1]) (l ++ [o.2]) hr hb (fun x hx => hok x (List.mem_cons_of_mem _ hx)) (by simpa using hup) (fun hx => by simp at hx) (by rcases wDepth s o with h | h; exact h; exact h.elim)
  rw [show (wStep s o).depth = (s.depth + 1) * k from by rw [hk]; rfl] at this
  rw [show (wStep s o).ahead = o.2 from rfl] at this
  rw [this]
  simp
theorem rdP_wr {os : List Obj} {q : List UInt8} (h : wrR os = (q, 0)) (hok : ∀ o ∈ os, shaD o.2 = o.1 ∧ o.2.length ≤ 131072) (hup : Up (os.map (·.1))) (hn : os.length ≤ 500) : rdP q = .ok (os.map (·.2)) := by
 unfold wrR at h
 cases hw : wRun os (wBegin os.length) with
 | none => rw [hw] at h; cases h
 | some s =>
 rw [hw] at h
 have hq : q = s.out ++ (shaD s.out).1 := (congrArg Prod.fst h).symm
 have hsh := (shaD s.out).2
 have hv := vi_len9 (n := os.length) om_
 have hv0 := vi_pos os.length
 have hl := wRun_len _ _ _ hw (by show ([82, 80, 49] ++ vi os.length).length ≤ _; rw [List.length_append]; show 3 + _ ≤ _; omega)
 obtain ⟨suf, hsuf⟩ := wRun_pre _ _ _ hw
 have hout : s.out = [82, 80, 49] ++ (vi os.length ++ suf) := by rw [hsuf]; show ([82, 80, 49] ++ vi os.length) ++ suf = _; rw [List.append_assoc]
 have hol : 4 ≤ s.out.length := by rw [hout, List.length_append, List.length_append]; show 4 ≤ 3 + _; omega
 have hql : q.length = s.out.length + 32 := by rw [hq, List.length_append, hsh]
 have ht : q.take s.out.length = s.out := by rw [hq, List.take_left]
 have hdr : q.drop s.out.length = (shaD s.out).1 := by rw [hq, List.drop_left]
 have g0 : gnum s.out 3 = .ok (os.length, 3 + (vi os.length).length) := by
  have := (rds_num (n := os.length) om_).1 [82, 80, 49] suf
  rw [← hout] at this
  exact this
 have h3 : ¬ (q.length < 3 ∨ q.take 3 ≠ [82, 80, 49]) := by
  rintro (h1 | h1)
  ·
   omega
  ·
   apply h1; rw [hq, hout]; rfl
 rw [rdP_5 (q := s.out.length) om_ h3 om_ om_ (by rw [ht, hdr]), ht]
 have := robjs_wr s.out os (wBegin os.length) s [] [] hw rfl hok (by simpa using hup) (fun _ => rfl) (Nat.zero_le _)
 refine rbody_5 g0 om_ (at_ := s.out.length) ?_ rfl
 have h5 : (wBegin os.length).out.length = 3 + (vi os.length).length := by show ([82, 80, 49] ++ vi os.length).length = _; rw [List.length_append]; rfl
 rw [h5] at this
 simpa [wBegin] using this
theorem wrR_bad {os : List Obj} {q : List UInt8} {e : Int} (h : (q, e) = wrR os) : e = 0 ∨ (e = 3 ∧ q = []) := by
 unfold wrR at h
 split at h
 ·
  injection h with h1 h2; exact .inr ⟨h2, h1⟩
 ·
  injection h with h1 h2; exact .inl h2
theorem objs_ok {l : List Ent} {xs : List (List UInt8)} (h : Holds l xs) : ∀ o ∈ objs l, shaD o.2 = o.1 ∧ o.2.length ≤ 131072 ∧ o.2 ∈ xs := by
 intro o ho
 obtain ⟨d, hd, rfl⟩ := List.mem_map.1 ho
 obtain ⟨x, hx⟩ := (names_val h.keys).1 hd
 rw [getB_val hx]
 obtain ⟨h1, h2, h3⟩ := (h.val _ _).1 hx
 exact ⟨h3, h2, h1⟩
theorem objs_up {l : List Ent} {xs : List (List UInt8)} (h : Holds l xs) : Up ((objs l).map (·.1)) := by
 have : (objs l).map (·.1) = namesL l := by rw [objs, List.map_map]; exact List.map_id'' (fun _ => rfl) _
 rw [this]; exact namesL_up h.keys
theorem WrAns.good {xs : List (List UInt8)} {q : List UInt8} (h : WrAns xs q 0) : TkOk xs ∧ ∃ l, Holds l xs ∧ (q, 0) = wrR (objs l) ∧ rdP q = .ok ((objs l).map (·.2)) ∧ (objs l).map (·.1) = keysOf xs := by
 rcases h with ⟨h1, _⟩ | ⟨l, hl, hs, hf, hq⟩
 ·
  obtain ⟨i, b, l, _, _, _, _, h0, hne⟩ := h1; exact absurd rfl hne
 ·
  refine ⟨holds_ok hl hs hf, l, hl, hq, rdP_wr hq.symm (fun o ho => ⟨(objs_ok hl o ho).1, (objs_ok hl o ho).2.1⟩) (objs_up hl) (by rw [objs_length]; exact hf), ?_⟩
  rw [← holds_keys hl hs, objs, List.map_map]; exact List.map_id'' (fun _ => rfl) _
theorem gdig_err {b : List UInt8} {at_ : Nat} {e : Int} (h : gdig b at_ = .error e) : e ≠ 0 := by
 unfold gdig at h
 split at h
 ·
  cases h
 ·
  injection h with h; omega
theorem robj_err {b : List UInt8} {ids : List Dig} {ahead : List UInt8} {depth at_ : Nat} {e : Int} (h : robj b ids ahead depth at_ = .error e) : e ≠ 0 := by
 cases hg : gdig b at_ with
 | error e => rw [robj_e1 hg] at h; injection h with h; rw [← h]; exact gdig_err hg
 | ok x1 =>
 obtain ⟨d1, a1⟩ := x1
 cases hbh : behind ids d1 with
 | false => rw [robj_e2 hg hbh] at h; injection h with h; omega
 | true =>
 cases hn : gnum b a1 with
 | error e => rw [robj_e3 hg hbh hn] at h; injection h with h; rw [← h]; exact gnum_err hn
 | ok x2 =>
 obtain ⟨k, a2⟩ := x2
 by_cases hk : 1 < k ∨ (k = 1 ∧ ids = [])
 ·
  rw [robj_e4 hg hbh hn hk] at h; injection h with h; omega
 by_cases hd : 4 < (depth + 1) * k
 ·
  rw [robj_e5 hg hbh hn hk hd] at h; injection h with h; omega
 cases ht : gtext b a2 with
 | error e => rw [robj_e6 hg hbh hn hk hd ht] at h; injection h with h; rw [← h]; exact gtext_err ht
 | ok x3 =>
 obtain ⟨s1, a3⟩ := x3
 have key : ∀ t : List UInt8, ((k = 1 ∧ apB ahead s1 = (t, 0)) ∨ (k ≠ 1 ∧ t = s1)) → e ≠ 0 := by
  intro t hr
  rw [robj_last hg hbh hn hk hd ht hr] at h
  split at h
  ·
   injection h with h; omega
  ·
   cases h
 by_cases h1 : k = 1
 ·
  by_cases ha : (apB ahead s1).2 = 0
  ·
   exact key (apB ahead s1).1 (.inl ⟨h1, Prod.ext rfl ha⟩)
  ·
   rw [robj_e7 hg hbh hn hk hd ht h1 ha] at h; injection h with h; omega
 ·
  exact key s1 (.inr ⟨h1, rfl⟩)
theorem robjs_err {b : List UInt8} {e : Int} : ∀ (n : Nat) (ids : List Dig) (l : List (List UInt8)) (ahead : List UInt8) (depth at_ : Nat), robjs b n ids l ahead depth at_ = .error e → e ≠ 0
 | 0, _, _, _, _, _, h => by simp [robjs] at h
 | n + 1, ids, l, ahead, depth, at_, h => by
  cases hr : robj b ids ahead depth at_ with
  | error e => rw [robjs_e hr] at h; injection h with h; rw [← h]; exact robj_err hr
  | ok x => obtain ⟨⟨d, s, dp⟩, a⟩ := x; rw [robjs_s hr] at h; exact robjs_err n _ _ _ _ _ h
theorem rdP_err {q : List UInt8} {e : Int} (h : rdP q = .error e) : e ≠ 0 := by
 by_cases h1 : 1048576 < q.length
 ·
  rw [rdP_1 h1] at h; injection h with h; omega
 by_cases h2 : q.length < 3 ∨ q.take 3 ≠ [82, 80, 49]
 ·
  rw [rdP_2 h1 h2] at h; injection h with h; omega
 by_cases h3 : q.length < 35
 ·
  rw [rdP_3 h1 h2 h3] at h; injection h with h; omega
 have hq : q.length - 32 + 32 = q.length := by omega
 by_cases h4 : (shaD (q.take (q.length - 32))).1 = q.drop (q.length - 32)
 ·
  rw [rdP_5 h1 h2 h3 hq h4] at h
  cases hg : gnum (q.take (q.length - 32)) 3 with
  | error e => rw [rbody_1 hg] at h; injection h with h; rw [← h]; exact gnum_err hg
  | ok x =>
   obtain ⟨n, a⟩ := x
   by_cases hn : 500 < n
   ·
    rw [rbody_2 hg hn] at h; injection h with h; omega
   cases hr : robjs (q.take (q.length - 32)) n [] [] [] 0 a with
   | error e => rw [rbody_3 hg hn hr] at h; injection h with h; rw [← h]; exact robjs_err _ _ _ _ _ _ hr
   | ok y =>
    obtain ⟨l, at_⟩ := y
    by_cases ht : at_ = (q.take (q.length - 32)).length
    ·
     rw [rbody_5 hg hn hr ht] at h; cases h
    ·
     rw [rbody_4 hg hn hr ht] at h; injection h with h; omega
 ·
  rw [rdP_4 h1 h2 h3 hq h4] at h; injection h with h; omega
section
variable {q : List UInt8} {l : List (List UInt8)} {i : Nat} {x y : UInt8} (h : rdP q = .ok l) (hi : q[i]? = some y) (hx : x ≠ y)
include h hi hx
end
theorem wrAns_one {x : List UInt8} {q : List UInt8} {e : Int} (hx : x.length ≤ 131072) (h : WrAns [x, x] q e) : e = 0 ∧ q.length = 3 + 1 + 32 + 1 + (textB x).length + 32 ∧ rdP q = .ok [x] := by
 have hok : TkOk [x, x] := by
  refine ⟨fun b hb => by simp at hb; subst hb; exact hx, ?_, ?_⟩
  ·
   intro a ha b hb _ _ _; simp at ha hb; rw [ha, hb]
  ·
   have hk : keysOf [x, x] = [shaD x] := up_eq (keysOf_up _) (List.pairwise_singleton _ _) fun d => by rw [keysOf_mem]; simp [eq_comm]
   rw [hk]; show 1 ≤ 500; omega
 rcases h with ⟨h1, _⟩ | ⟨l, hl, hs, hf, hq⟩
 ·
  exact absurd hok (tkErr_no h1)
 have hk : keysOf [x, x] = [shaD x] := up_eq (keysOf_up _) (List.pairwise_singleton _ _) fun d => by rw [keysOf_mem]; simp [eq_comm]
 have hn : namesL l = [shaD x] := by rw [holds_keys hl hs, hk]
 have ho : objs l = [(shaD x, x)] := by
  rw [objs, hn]
  have hm := objs_ok hl (shaD x, getB l (shaD x)) (by rw [objs, hn]; exact List.mem_singleton.2 rfl)
  have : getB l (shaD x) = x := by have := hm.2.2; simpa using this
  simp [this]
 have he : e = 0 := by
  rcases wrR_bad hq with h1 | h1
  ·
   exact h1
  ·
   exfalso
   rw [ho] at hq
   unfold wrR at hq
   have hp := wPiece_len (wBegin 1) (shaD x, x) hx
   rw [wRun, if_neg (by show ¬ 1048544 < (([82, 80, 49] ++ vi 1) ++ wPiece (wBegin 1) (shaD x, x)).length; rw [List.length_append, List.length_append]; have := vi_len9 (n := 1) om_; show ¬ 1048544 < 3 + _ + _; omega), wRun] at hq
   have := congrArg Prod.snd hq
   rw [h1.1] at this
   cases this
 subst he
 have hg := WrAns.good (xs := [x, x]) (q := q) (.inr ⟨l, hl, hs, hf, hq⟩)
 refine ⟨rfl, ?_, ?_⟩
 ·
  rw [ho] at hq
  unfold wrR at hq
  have hp := wPiece_len (wBegin 1) (shaD x, x) hx
  rw [wRun, if_neg (by show ¬ 1048544 < (([82, 80, 49] ++ vi 1) ++ wPiece (wBegin 1) (shaD x, x)).length; rw [List.length_append, List.length_append]; have := vi_len9 (n := 1) om_; show ¬ 1048544 < 3 + _ + _; omega), wRun] at hq
  have hq := congrArg Prod.fst hq
  simp only [] at hq
  rw [hq, List.length_append, (shaD _).2]
  show ((([82, 80, 49] ++ vi 1) ++ wPiece (wBegin 1) (shaD x, x)).length) + 32 = _
  have hk0 : toldK (wBegin 1).ahead x (wBegin 1).first (wBegin 1).depth = 0 := by unfold toldK; rw [if_pos (.inl rfl)]
  have hb0 : toldB (wBegin 1).ahead x (wBegin 1).first (wBegin 1).depth = x := by unfold toldB; rw [if_pos hk0]
  simp only [wPiece, hk0, hb0, List.length_append, (shaD x).2, vi_lt (show 1 < 128 by decide), vi_lt (show 0 < 128 by decide), List.length_cons, List.length_nil]
  omega
 ·
  obtain ⟨_, l2, hl2, _, hr, hk2⟩ := hg
  have hn2 : namesL l2 = [shaD x] := by rw [holds_keys hl2 hs, hk]
  have ho2 : objs l2 = [(shaD x, x)] := by
   rw [objs, hn2]
   have hm := objs_ok hl2 (shaD x, getB l2 (shaD x)) (by rw [objs, hn2]; exact List.mem_singleton.2 rfl)
   have : getB l2 (shaD x) = x := by have := hm.2.2; simpa using this
   simp [this]
  rw [hr, ho2]
  rfl
end Go.Proofs.YtfanmpbapabboaaDoor
/- recensionlaw12's alive, walked; two lists of texts; PackHeads. No condition but the bounds of what is handed in. -/
namespace Go.Fw
open Go.RowKit
theorem run_bs2p {P : Program} {t e : TypeId} {ie : TypeInfo} {z : Value} {a b : Value} (hu : P.underlying t = some (.slice e)) (hi : P.info? e = some ie) (hz : ie.zero = some z) (h1 : ie.size = 1) (ha : a.cells = #[a]) (hb : b.cells = #[b]) (w : World) :
  (Instr.buildSlice t 2 [(0, a), (1, b)].toArray).run P w = .ok (.slice (some ⟨w.heap.size, 0, none⟩) 2 2) (w.alloc (.cells [a, b].toArray e)) := by
 refine run_buildSlice w t e 2 _ _ ie z hu hi hz om_ om_ ?_
 have h := Go.Great.fill_whole (s := ie.size) om_ [a, b] ((Array.range (2 * ie.size)).map (z.cells[· % z.cells.size]!)) (by intro u hu; simp at hu; rcases hu with rfl | rfl <;> simp [*]) (by simp)
 simpa [ha, hb] using h
theorem WL.gst {P : Program} {n : NN} {Φ : Exit → Fr → World → Prop} {fr : Fr} {w : World} {ty : TypeId} {R : Value → World → Prop} {ops : Array Oper} {rest : List Oper} {d j dj : Nat} {b : Bool} {o : Op} {pos : String} {aft : Array Edge}
  (hj : (ops[j]?).bind (·.dst) = some dj) (hg : fr.get dj = some (.bool b))
  (hs : St P n fr o ty w R) (hd : d < n.1) (h : ∀ v w', R v w' → WL P ops n Φ rest ((d, v) :: fr) w') : WL P ops n Φ (⟨some d, o, ty, pos, aft, some (j, b)⟩ :: rest) fr w := fun a ha =>
 wpList_step fun K hK => by
  obtain ⟨v, w', hr, hR⟩ := hs a ⟨some d, o, ty, pos, aft, some (j, b)⟩ rfl rfl ha
  rw [if_pos (by simp [Region.wanted, yielded_eq ha hj hg])]
  unfold Oper.wp
  rw [hr]
  exact hK _ _ (h v w' hR _ (ha.put hd v))
end Go.Fw
namespace Go.Proofs.YtfanmpbapabboaaDoor
open Go.RowKit Go.Fw Go.Pl Go.Sort
theorem bs2_strp (a b : ByteArray) (w : World) : (Instr.buildSlice TSs 2 [(0, .string a), (1, .string b)].toArray).run Tryd.prog w = .ok (.slice (some ⟨w.heap.size, 0, none⟩) 2 2) (w.alloc (.cells [.string a, .string b].toArray TStr)) := by
 obtain ⟨i, z, hi, hz, hk, _⟩ := ai_str
 exact run_bs2p Tryd.underlying22 hi hz hk rfl rfl w
theorem Blk.slS {w : World} {g : Nat} {e : TypeId} {xs : List (List UInt8)} (h : Blk w g e (xs.map fun x => .string (bs x))) (hl : xs.length ≤ maxLen) : Sl w strC 1 (.slice (some ⟨g, 0, none⟩) xs.length xs.length) xs :=
 ⟨_, _, _, rfl, rfl, Nat.le_refl _, hl, fun i x hi => ⟨_, rfl, by
  rw [Nat.mul_one]
  exact h.mem.sub i fun j v hj => by
   cases j with
   | zero => simp [strC] at hj; subst hj; simp [hi]
   | succ j => simp [strC] at hj⟩⟩
theorem RdAns.split {p : List UInt8} {w w' : World} {v : Value} (h : RdAns p w v w') : Ext w w' ∧ ∃ e A m c, v = .tuple #[.slice A m c, .int .i64 e] ∧ (∀ k, (Value.slice A m c).ownBlock = some k → w.heap.size ≤ k) ∧
  ((e = 0 ∧ ∃ l, rdP p = .ok l ∧ Own w' TStr 1 (.slice A m c) (flatS l)) ∨ (rdP p = .error e ∧ e ≠ 0 ∧ m = 0)) := by
 obtain ⟨lv, hx, hlw, ⟨l, hl, rfl, hO⟩ | ⟨e, he, rfl, rfl⟩⟩ := h
 ·
  obtain ⟨A, m, c, rfl⟩ := hO.lens
  exact ⟨hx, 0, A, m, c, rfl, hlw, .inl ⟨rfl, l, hl, hO⟩⟩
 ·
  exact ⟨hx, e, none, 0, 0, rfl, hlw, .inr ⟨he, rdP_err he, rfl⟩⟩
theorem psame_any (u v : Value) (xs ys : List (List UInt8)) (w : World) (hu : Sl w strC 1 u xs) (hv : Sl w strC 1 v ys) : Calls Tryd.prog 6 #[u, v] w (Ret fun r w' => r = .bool (decide (xs = ys)) ∧ Ext w w') := by
 obtain ⟨A, m, c, rfl, hm, hmc, hcm, hux⟩ := id hu
 obtain ⟨B, n, d, rfl, hn, hnd, hdm, hvx⟩ := id hv
 unfold maxLen at hcm hdm
 refine calls_of_CW 26 [4] [(0, .slice A m c), (1, .slice B n d)] Tryd.func6 rfl rfl rfl (by simp) args2 ?_
 have hE : Ext w w := Chg.refl
 refine CW.sr fun K1 hK1 => ?_
 refine WL.a rfl ?_
 refine WL.nil (hK1 _ _ ?_); try clear hK1
 refine CW.seq fun K2 hK2 => ?_
 refine CW.sr fun K3 hK3 => ?_
 refine WL.m rfl ?_
 refine WL.v (Y.len_slice Tryd.underlying22 rfl) ?_
 refine WL.m rfl ?_
 refine WL.v (Y.len_slice Tryd.underlying22 rfl) ?_
 refine WL.v (Y.neq rfl rfl) ?_
 refine WL.nil (hK3 _ _ ?_); try clear hK3
 (first | refine cd_ rfl ?_ ?_ | refine ce_ rfl ?_ ?_ | refine cn_ rfl ?_ ?_ | refine cb_ rfl ?_ ?_) <;> intro ht4
 ·
  -- then
  refine CW.sr fun K5 hK5 => ?_
  refine WL.a rfl ?_
  refine WL.nil (hK5 _ _ ?_); try clear hK5
  refine CW.ret ⟨_, rfl, ?_⟩
  exact ⟨by rw [decide_eq_false (fun h => by subst h; omega)], hE⟩
 refine CW.skip ?_
 refine hK2 _ _ ?_; try clear hK2
 refine CW.seq fun K6 hK6 => ?_
 refine CW.sr fun K7 hK7 => ?_
 refine WL.a rfl ?_
 refine WL.nil (hK7 _ _ ?_); try clear hK7
 refine CW.block ?_
 refine CW.loop (X := Nat) (fun x => [(0, .slice A m c), (1, .slice B n d), (5, .int .i64 (x : Int))]) (fun x w0 => x ≤ xs.length ∧ xs.take x = ys.take x ∧ Ext w w0) (fun x => xs.length - x) 0 Fr.ok ⟨Nat.zero_le _, by simp, hE⟩ ?_
 intro x w1 hl1
 obtain ⟨hx, hpre, hE⟩ := hl1
 refine CW.seq fun K8 hK8 => ?_
 refine CW.sr fun K9 hK9 => ?_
 refine WL.m rfl ?_
 refine WL.m rfl ?_
 refine WL.v (Y.len_slice Tryd.underlying22 rfl) ?_
 refine WL.v (Y.lss rfl rfl) ?_
 refine WL.nil (hK9 _ _ ?_); try clear hK9
 (first | refine cd_ rfl ?_ ?_ | refine ce_ rfl ?_ ?_ | refine cn_ rfl ?_ ?_ | refine cb_ rfl ?_ ?_) <;> intro ht10
 ·
  -- then
  refine CW.skip ?_
  refine hK8 _ _ ?_; try clear hK8
  refine CW.seq fun K11 hK11 => ?_
  refine CW.block ?_
  refine CW.seq fun K12 hK12 => ?_
  obtain ⟨px, hpx⟩ : ∃ p, xs[x]? = some p := ⟨_, List.getElem?_eq_getElem om_⟩
  obtain ⟨py, hpy⟩ : ∃ p, ys[x]? = some p := ⟨_, List.getElem?_eq_getElem om_⟩
  obtain ⟨a, rfl, hma⟩ := (hu.ext hE).at hpx
  obtain ⟨b, rfl, hmb⟩ := (hv.ext hE).at hpy
  refine CW.quiet (fun wq => Ext w1 wq) kr_ kr_ Chg.drew ?_
  refine QL.m rfl ?_
  refine QL.m rfl ?_
  refine QL.v (fun wq hq => Y.indexAddrN Tryd.underlying22 rfl rfl sz0_string om_) ?_
  refine QL.v (fun wq hq => Y.load1 Tryd.underlying9 rfl (hma.ext hq).cell0 rfl) ?_
  refine QL.m rfl ?_
  refine QL.m rfl ?_
  refine QL.v (fun wq hq => Y.indexAddrN Tryd.underlying22 rfl rfl sz0_string om_) ?_
  refine QL.v (fun wq hq => Y.load1 Tryd.underlying9 rfl (hmb.ext hq).cell0 rfl) ?_
  refine QL.v (fun wq hq => Y.neq_string rfl rfl) ?_
  refine QL.nil fun w2 hx2 => ?_
  have hz2 := hx2.size
  have hE := hE.thenExt hx2
  refine hK12 _ _ ?_; try clear hK12
  (first | refine cd_ rfl ?_ ?_ | refine ce_ rfl ?_ ?_ | refine cn_ rfl ?_ ?_ | refine cb_ rfl ?_ ?_) <;> intro ht13
  ·
   -- then
   refine CW.sr fun K14 hK14 => ?_
   refine WL.a rfl ?_
   refine WL.nil (hK14 _ _ ?_); try clear hK14
   refine CW.ret ⟨_, rfl, ?_⟩
   exact ⟨by rw [decide_eq_false (fun h => by subst h; rw [hpx] at hpy; injection hpy with hpy; subst hpy; simp at ht13)], hE⟩
  refine CW.skip ?_
  refine hK11 _ _ ?_; try clear hK11
  refine CW.region ?_
  refine WL.m rfl ?_
  refine WL.v (Y.add rfl rfl o2_) ?_
  refine WL.a rfl ?_
  refine WL.nil ?_
  have hpq : px = py := by simpa [bs_toList] using ht13
  refine ⟨x + 1, by show xs.length - (x + 1) < xs.length - x; omega, Fr.ok, by show x + 1 ≤ xs.length; omega, ?_, hE⟩
  show xs.take (x + 1) = ys.take (x + 1)
  rw [take_succ hpx, take_succ hpy, hpre, hpq]
 refine CW.exit ?_
 refine hK6 _ _ ?_; try clear hK6
 refine CW.sr fun K15 hK15 => ?_
 refine WL.a rfl ?_
 refine WL.nil (hK15 _ _ ?_); try clear hK15
 refine CW.ret ⟨_, rfl, ?_⟩
 exact ⟨by rw [decide_eq_true (by have h1 : xs.take x = xs := List.take_of_length_le om_; have h2 : ys.take x = ys := List.take_of_length_le om_; rw [← h1, ← h2]; exact hpre)], hE⟩
theorem palive_any (w : World) (hK : Mem w ⟨0, 0, none⟩ (wds keysL)) : Calls Tryd.prog 5 #[] w (Ret fun r w' => r = .bool true ∧ Ext w w') := by
 refine calls_of_CW 31 [0] [] Tryd.func5 rfl rfl rfl (by simp) args0 ?_
 have hE : Ext w w := Chg.refl
 refine CW.sr fun K1 hK1 => ?_
 refine WL.a rfl ?_
 refine WL.nil (hK1 _ _ ?_); try clear hK1
 refine CW.sr fun K2 hK2 => ?_
 refine WL.st (St.buildSlice rfl (bs2_strp _ _)) de_ fun v6 w1 hR1 => ?_
 obtain ⟨g6, rfl, hg6, hB6, hx1⟩ := hR1
 have hz1 := hx1.size
 have hE := hE.thenExt hx1
 have hK := hK.ext hx1
 refine WL.call Tryd.func15 rfl rfl rfl (pwrite_any _ [[97], [97]] _ (Blk.slS (xs := [[97], [97]]) hB6 (by simp [maxLen])) (fun x hx => by simp at hx; subst hx; simp) hK) (by simp) ?_; rintro v7 w2 hR2
 obtain ⟨⟨q, e, rfl, hW⟩, hx2⟩ := hR2
 have hz2 := hx2.size
 have hE := hE.thenExt hx2
 have hK := hK.ext hx2
 obtain ⟨rfl, hql, hrq⟩ := wrAns_one de_ hW
 have hq71 : (bs q).size = 71 := by rw [bs_size, hql, textB, vi_lt de_]; rfl
 refine WL.m rfl ?_
 refine WL.v (Y.extract rfl rfl) ?_
 refine WL.v (Y.extract rfl rfl) ?_
 refine WL.a rfl ?_
 refine WL.a rfl ?_
 refine WL.nil (hK2 _ _ ?_); try clear hK2
 refine CW.sr fun K3 hK3 => ?_
 refine WL.m rfl ?_
 refine WL.call Tryd.func16 rfl rfl rfl (pread_any q _ hK) (by simp) ?_; rintro v12 w3 hR3
 obtain ⟨hx3, e9, A3, m3, c3, rfl, hlw, ⟨rfl, l9, hl9, hO⟩ | ⟨he9, _⟩⟩ := RdAns.split hR3
 rotate_left
 ·
  rw [hrq] at he9; cases he9
 obtain rfl : [[97]] = l9 := by rw [hrq] at hl9; injection hl9
 have hz3 := hx3.size
 have hE := hE.thenExt hx3
 have hK := hK.ext hx3
 refine WL.m rfl ?_
 refine WL.v (Y.extract rfl rfl) ?_
 refine WL.v (Y.extract rfl rfl) ?_
 refine WL.a rfl ?_
 refine WL.a rfl ?_
 refine WL.nil (hK3 _ _ ?_); try clear hK3
 refine CW.sr fun K4 hK4 => ?_
 refine WL.m rfl ?_
 refine WL.v (Y.eql rfl rfl) ?_
 refine WL.m rfl ?_
 (first | refine WL.casesD (d := 17) rfl ?_ ?_ | refine WL.casesND (d := 17) rfl ?_ ?_ | refine WL.cases (d := 17) rfl ?_ ?_) <;> intro hg17
 ·
  -- t17 = T
  refine WL.g rfl rfl (Y.move rfl) ?_
  refine WL.g rfl rfl (Y.eql rfl rfl) ?_
  refine WL.v (Y.pick rfl rfl) ?_
  refine WL.m rfl ?_
  (first | refine WL.casesD (d := 21) rfl ?_ ?_ | refine WL.casesND (d := 21) rfl ?_ ?_ | refine WL.cases (d := 21) rfl ?_ ?_) <;> intro hg21
  ·
   -- t21 = T
   refine WL.g rfl rfl (Y.move rfl) ?_
   refine WL.g rfl rfl (Y.len_string Tryd.underlying9 rfl) ?_
   refine WL.g rfl rfl (Y.eql rfl rfl) ?_
   refine WL.v (Y.pick rfl rfl) ?_
   refine WL.m rfl ?_
   (first | refine WL.casesD (d := 26) rfl ?_ ?_ | refine WL.casesND (d := 26) rfl ?_ ?_ | refine WL.cases (d := 26) rfl ?_ ?_) <;> intro hg26
   ·
    -- t26 = T
    refine WL.g rfl rfl (Y.move rfl) ?_
    refine WL.gst rfl rfl (St.buildSlice rfl (bs1_str _)) de_ fun v28 w4 hR4 => ?_
    obtain ⟨g28, rfl, hg28, hB28, hx4⟩ := hR4
    have hz4 := hx4.size
    have hE := hE.thenExt hx4
    have hK := hK.ext hx4
    refine WL.gcall rfl rfl Tryd.func6 rfl rfl rfl (psame_any _ _ [[97]] [[97]] _ ((hO.ext hx4).sl strC_length de_) (Blk.slS (xs := [[97]]) hB28 (by simp [maxLen]))) de_ ?_; rintro v29 w5 hR5
    obtain ⟨rfl, hx5⟩ := hR5
    have hz5 := hx5.size
    have hE := hE.thenExt hx5
    have hK := hK.ext hx5
    refine WL.v (Y.pick rfl rfl) ?_
    refine WL.a rfl ?_
    refine WL.nil (hK4 _ _ ?_); try clear hK4
    refine CW.ret ⟨_, rfl, ?_⟩
    exact ⟨by simp, hE⟩
   ·
    -- t26 = F
    refine WL.o rfl rfl ?_
    refine WL.o rfl rfl ?_
    refine WL.o rfl rfl ?_
    refine WL.v (Y.pick rfl rfl) ?_
    refine WL.a rfl ?_
    refine WL.nil (hK4 _ _ ?_); try clear hK4
    refine CW.ret ⟨_, rfl, ?_⟩
    exact absurd (by rw [hq71]; rfl) hg26
  ·
   -- t21 = F
   refine WL.o rfl rfl ?_
   refine WL.o rfl rfl ?_
   refine WL.o rfl rfl ?_
   refine WL.v (Y.pick rfl rfl) ?_
   refine WL.m rfl ?_
   refine WL.o rfl rfl ?_
   refine WL.o rfl rfl ?_
   refine WL.o rfl rfl ?_
   refine WL.v (Y.pick rfl rfl) ?_
   refine WL.a rfl ?_
   refine WL.nil (hK4 _ _ ?_); try clear hK4
   refine CW.ret ⟨_, rfl, ?_⟩
   exact absurd rfl hg21
 ·
  -- t17 = F
  refine WL.o rfl rfl ?_
  refine WL.o rfl rfl ?_
  refine WL.v (Y.pick rfl rfl) ?_
  refine WL.m rfl ?_
  refine WL.o rfl rfl ?_
  refine WL.o rfl rfl ?_
  refine WL.o rfl rfl ?_
  refine WL.v (Y.pick rfl rfl) ?_
  refine WL.m rfl ?_
  refine WL.o rfl rfl ?_
  refine WL.o rfl rfl ?_
  refine WL.o rfl rfl ?_
  refine WL.v (Y.pick rfl rfl) ?_
  refine WL.a rfl ?_
  refine WL.nil (hK4 _ _ ?_); try clear hK4
  refine CW.ret ⟨_, rfl, ?_⟩
  exact absurd rfl hg17
end Go.Proofs.YtfanmpbapabboaaDoor
/- The plain law of fans: how many digests have a first byte up to any one. No condition; no program run. -/
namespace Go.Fw
end Go.Fw
namespace Go.Pl
open Go.Fw
theorem up_at {l : List Dig} (h : Up l) {i j : Nat} {a b : Dig} (hij : i < j) (ha : l[i]? = some a) (hb : l[j]? = some b) : lessB a b = true := by
 obtain ⟨hi, rfl⟩ := List.getElem?_eq_some_iff.1 ha
 obtain ⟨hj, rfl⟩ := List.getElem?_eq_some_iff.1 hb
 exact List.pairwise_iff_getElem.1 h i j hi hj hij
end Go.Pl
/- Rises and In of the reference, walked. No condition. -/
namespace Go.Proofs.YtfanmpbapabboaaDoor
open Go.RowKit Go.Fw Go.Pl Go.Sort
theorem up_snoc {l : List Dig} {x : Nat} {a d : Dig} (h : Up (l.take (x + 1))) (ha : l[x]? = some a) (hd : l[x + 1]? = some d) (hl : lessB a d = true) : Up (l.take (x + 2)) := by
 rw [show x + 2 = (x + 1) + 1 from rfl, take_succ hd]
 refine List.pairwise_append.2 ⟨h, List.pairwise_singleton _ _, fun b hb y hy => ?_⟩
 rw [List.mem_singleton] at hy
 subst hy
 obtain ⟨i, hi⟩ := List.getElem?_of_mem hb
 have hil := (List.getElem?_eq_some_iff.1 hi).1
 rw [List.length_take] at hil
 have ha' : (l.take (x + 1))[x]? = some a := by rw [List.getElem?_take, if_pos om_, ha]
 rcases Nat.lt_or_ge i x with h1 | h1
 ·
  exact less_trans (up_at h h1 hi ha') hl
 ·
  have : i = x := by omega
  subst this
  rw [hi] at ha'; injection ha' with ha'; rw [ha']; exact hl
theorem up_one (l : List Dig) : Up (l.take 1) := by
 cases l with
 | nil => exact List.Pairwise.nil
 | cons d l => exact List.pairwise_singleton _ _
theorem rRises_any (u : Value) (l : List Dig) (w : World) (hl : Sl w digC 32 u l) : Calls Tryd.prog 9 #[u] w (Ret fun r w' => r = .bool (decide (Up l)) ∧ Ext w w') := by
 obtain ⟨A, m, c, rfl, hm, hmc, hcm, hux⟩ := id hl
 unfold maxLen at hcm
 refine calls_of_CW 21 [2] [(0, .slice A m c)] Tryd.func9 rfl rfl rfl (by simp) args1 ?_
 have hE : Ext w w := Chg.refl
 refine CW.sr fun K1 hK1 => ?_
 refine WL.a rfl ?_
 refine WL.nil (hK1 _ _ ?_); try clear hK1
 refine CW.seq fun K2 hK2 => ?_
 refine CW.sr fun K3 hK3 => ?_
 refine WL.a rfl ?_
 refine WL.nil (hK3 _ _ ?_); try clear hK3
 refine CW.block ?_
 refine CW.loop (X := Nat) (fun x => [(0, .slice A m c), (3, .int .i64 (x : Int))]) (fun x w0 => 1 ≤ x ∧ (x ≤ l.length ∨ x = 1) ∧ Up (l.take x) ∧ Ext w w0) (fun x => l.length - x) 1 Fr.ok ⟨Nat.le_refl _, .inr rfl, up_one l, hE⟩ ?_
 intro x w1 hl1
 obtain ⟨hx1, hx, hup, hE⟩ := hl1
 refine CW.seq fun K4 hK4 => ?_
 refine CW.sr fun K5 hK5 => ?_
 refine WL.m rfl ?_
 refine WL.m rfl ?_
 refine WL.v (Y.len_slice Tryd.underlying23 rfl) ?_
 refine WL.v (Y.lss rfl rfl) ?_
 refine WL.nil (hK5 _ _ ?_); try clear hK5
 (first | refine cd_ rfl ?_ ?_ | refine ce_ rfl ?_ ?_ | refine cn_ rfl ?_ ?_ | refine cb_ rfl ?_ ?_) <;> intro ht6
 ·
  -- then
  refine CW.skip ?_
  refine hK4 _ _ ?_; try clear hK4
  refine CW.seq fun K7 hK7 => ?_
  refine CW.block ?_
  refine CW.seq fun K8 hK8 => ?_
  obtain ⟨d, hd⟩ : ∃ d, l[x]? = some d := ⟨_, List.getElem?_eq_getElem om_⟩
  obtain ⟨a, rfl, hmd⟩ := (hl.ext hE).at hd
  obtain ⟨e, he⟩ : ∃ e : Dig, 0 < x → l[x - 1]? = some e := by
   rcases Nat.eq_zero_or_pos x with h | h
   ·
    exact ⟨d, fun h2 => by omega⟩
   ·
    exact ⟨l[x - 1]'om_, fun _ => List.getElem?_eq_getElem _⟩
  have hme : 0 < x → Mem w1 (a.add ((x - 1) * 32)) (digC e) := fun h => by
   obtain ⟨a2, h2, hm2⟩ := (hl.ext hE).at (he h)
   injection h2 with h2
   rw [h2]; exact hm2
  refine CW.quiet (fun wq => Ext w1 wq) kr_ kr_ Chg.drew ?_
  refine QL.m rfl ?_
  refine QL.m rfl ?_
  refine QL.v (fun wq hq => Y.sub rfl rfl o2_) ?_
  rw [show ((x : Int) - 1) = ((x - 1 : Nat) : Int) from by omega]
  refine QL.v (fun wq hq => Y.indexAddrN Tryd.underlying23 rfl rfl sz0_apiDigest om_) ?_
  refine QL.v (fun wq hq => Y.load Tryd.underlying30 rfl ((hme om_).ext hq) (sz_apiDigest _) rfl) ?_
  refine QL.m rfl ?_
  refine QL.m rfl ?_
  refine QL.v (fun wq hq => Y.indexAddrN Tryd.underlying23 rfl rfl sz0_apiDigest om_) ?_
  refine QL.v (fun wq hq => Y.load Tryd.underlying30 rfl (hmd.ext hq) (sz_apiDigest _) rfl) ?_
  refine QL.call Tryd.func20 rfl rfl rfl (fun wq hq => ret_ext (rLess_any _ _ _) hq) (by simp) ?_
  refine QL.v (fun wq hq => Y.not rfl) ?_
  refine QL.nil fun w2 hx2 => ?_
  have hz2 := hx2.size
  have hE := hE.thenExt hx2
  refine hK8 _ _ ?_; try clear hK8
  (first | refine cd_ rfl ?_ ?_ | refine ce_ rfl ?_ ?_ | refine cn_ rfl ?_ ?_ | refine cb_ rfl ?_ ?_) <;> intro ht9
  ·
   -- then
   refine CW.sr fun K10 hK10 => ?_
   refine WL.a rfl ?_
   refine WL.nil (hK10 _ _ ?_); try clear hK10
   refine CW.ret ⟨_, rfl, ?_⟩
   exact ⟨by rw [decide_eq_false fun h => by have h2 := up_at h (show x - 1 < x by omega) (he om_) hd; simp [h2] at ht9], hE⟩
  refine CW.skip ?_
  refine hK7 _ _ ?_; try clear hK7
  refine CW.region ?_
  refine WL.m rfl ?_
  refine WL.v (Y.add rfl rfl o2_) ?_
  refine WL.a rfl ?_
  refine WL.nil ?_
  refine ⟨x + 1, by show l.length - (x + 1) < l.length - x; omega, Fr.ok, by show 1 ≤ x + 1; omega, .inl (by show x + 1 ≤ l.length; omega), ?_, hE⟩
  show Up (l.take (x + 1))
  obtain ⟨y, rfl⟩ : ∃ y, x = y + 1 := ⟨x - 1, by omega⟩
  exact up_snoc hup (he om_) hd (by simpa using ht9)
 refine CW.exit ?_
 refine hK2 _ _ ?_; try clear hK2
 refine CW.sr fun K11 hK11 => ?_
 refine WL.a rfl ?_
 refine WL.nil (hK11 _ _ ?_); try clear hK11
 refine CW.ret ⟨_, rfl, ?_⟩
 exact ⟨by rw [decide_eq_true (by have h1 : l.take x = l := List.take_of_length_le om_; rw [← h1]; exact hup)], hE⟩
theorem pIn_any (u : Value) (l : List Dig) (k : Dig) (w : World) (hl : Sl w digC 32 u l) : Calls Tryd.prog 8 #[u, digV k] w (Ret fun r w' => r = .bool (decide (k ∈ l)) ∧ Ext w w') := by
 obtain ⟨A, m, c, rfl, hm, hmc, hcm, hux⟩ := id hl
 unfold maxLen at hcm
 refine calls_of_CW 18 [4] [(0, .slice A m c), (1, digV k)] Tryd.func8 rfl rfl rfl (by simp) args2 ?_
 have hE : Ext w w := Chg.refl
 refine CW.sr fun K1 hK1 => ?_
 refine WL.box rfl rfl de_ fun g3 w1 hx1 hg3 hB3 => ?_
 have hlt3 := hB3.lt; have hz1 := hx1.size
 have hM3 := hB3.mem; have hz1 := hx1.size; have hE := hE.thenExt hx1
 refine WL.a rfl ?_
 refine WL.nil (hK1 _ _ ?_); try clear hK1
 refine CW.seq fun K2 hK2 => ?_
 refine CW.sr fun K3 hK3 => ?_
 refine WL.a rfl ?_
 refine WL.nil (hK3 _ _ ?_); try clear hK3
 refine CW.block ?_
 refine CW.loop (X := Nat) (fun x => [(0, .slice A m c), (3, .pointer (some ⟨g3, 0, none⟩)), (5, .int .i64 (x : Int))]) (fun x w0 => x ≤ l.length ∧ k ∉ l.take x ∧ Ext w w0 ∧ Blk w0 g3 30 (digC k)) (fun x => l.length - x) 0 Fr.ok ⟨Nat.zero_le _, by simp, hE, hB3⟩ ?_
 intro x w2 hl2
 obtain ⟨hx, hno, hE, hB3⟩ := hl2
 refine CW.seq fun K4 hK4 => ?_
 refine CW.sr fun K5 hK5 => ?_
 refine WL.m rfl ?_
 refine WL.m rfl ?_
 refine WL.v (Y.len_slice Tryd.underlying23 rfl) ?_
 refine WL.v (Y.lss rfl rfl) ?_
 refine WL.nil (hK5 _ _ ?_); try clear hK5
 (first | refine cd_ rfl ?_ ?_ | refine ce_ rfl ?_ ?_ | refine cn_ rfl ?_ ?_ | refine cb_ rfl ?_ ?_) <;> intro ht6
 ·
  -- then
  refine CW.skip ?_
  refine hK4 _ _ ?_; try clear hK4
  refine CW.seq fun K7 hK7 => ?_
  refine CW.block ?_
  refine CW.seq fun K8 hK8 => ?_
  obtain ⟨d, hd⟩ : ∃ d, l[x]? = some d := ⟨_, List.getElem?_eq_getElem om_⟩
  obtain ⟨a, rfl, hmd⟩ := (hl.ext hE).at hd
  refine CW.quiet (fun wq => Ext w2 wq) kr_ kr_ Chg.drew ?_
  refine QL.m rfl ?_
  refine QL.m rfl ?_
  refine QL.v (fun wq hq => Y.indexAddrN Tryd.underlying23 rfl rfl sz0_apiDigest om_) ?_
  refine QL.v (fun wq hq => Y.load Tryd.underlying30 rfl (hmd.ext hq) (sz_apiDigest _) rfl) ?_
  refine QL.v (fun wq hq => Y.load Tryd.underlying30 rfl (hB3.ext hq).mem (sz_apiDigest _) rfl) ?_
  refine QL.v (fun wq hq => Y.eql_apiDigest rfl rfl) ?_
  refine QL.nil fun w3 hx3 => ?_
  have hz3 := hx3.size
  have hE := hE.thenExt hx3
  have hB3 := hB3.ext hx3
  refine hK8 _ _ ?_; try clear hK8
  (first | refine cd_ rfl ?_ ?_ | refine ce_ rfl ?_ ?_ | refine cn_ rfl ?_ ?_ | refine cb_ rfl ?_ ?_) <;> intro ht9
  ·
   -- then
   refine CW.sr fun K10 hK10 => ?_
   refine WL.a rfl ?_
   refine WL.nil (hK10 _ _ ?_); try clear hK10
   refine CW.ret ⟨_, rfl, ?_⟩
   have hkl : k ∈ l := by
    have h : d = k := by assumption
    rw [← h]
    exact List.mem_of_getElem? hd
   exact ⟨by rw [decide_eq_true hkl], hE⟩
  refine CW.skip ?_
  refine hK7 _ _ ?_; try clear hK7
  refine CW.region ?_
  refine WL.m rfl ?_
  refine WL.v (Y.add rfl rfl o2_) ?_
  refine WL.a rfl ?_
  refine WL.nil ?_
  refine ⟨x + 1, by show l.length - (x + 1) < l.length - x; omega, Fr.ok, by show x + 1 ≤ l.length; omega, ?_, hE, hB3⟩
  show k ∉ l.take (x + 1)
  rw [take_succ hd, List.mem_append, List.mem_singleton]
  have hne : ¬ d = k := by assumption
  rintro (h | h)
  ·
   exact hno h
  ·
   exact hne h.symm
 refine CW.exit ?_
 refine hK2 _ _ ?_; try clear hK2
 refine CW.sr fun K11 hK11 => ?_
 refine WL.a rfl ?_
 refine WL.nil (hK11 _ _ ?_); try clear hK11
 refine CW.ret ⟨_, rfl, ?_⟩
 exact ⟨by rw [decide_eq_false (by have h1 : l.take x = l := List.take_of_length_le om_; rw [← h1]; exact hno)], hE⟩
end Go.Proofs.YtfanmpbapabboaaDoor
