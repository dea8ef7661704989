/- Parts of a proof: what its last text leans on. No condition. -/
import Derived.Test.YtfanmpbapabboaaGreatDoorK14
import Derived.Test.YtfanmpbapabboaaGreatDoorK17
import Derived.Test.YtfanmpbapabboaaGreatDoorK18
import Derived.Test.YtfanmpbapabboaaGreatDoorK19
import Derived.Test.YtfanmpbapabboaaGreatDoorK21
import Derived.Test.YtfanmpbapabboaaGreatDoorK23
import Derived.Test.YtfanmpbapabboaaGreatDoorK26
set_option linter.unusedSimpArgs false
set_option linter.unusedVariables false
/- The plain law of packs: what was written is read back; a spoilt byte, missing bytes. No condition; no program run. -/
namespace Go.Proofs.YtfanmpbapabboaaGreatDoor
open Go.RowKit Go.Fw Go.Pl Go.Sort
theorem wRun_cons {o : Obj} {r : List Obj} {s s' : WS} (h : wRun (o :: r) s = some s') : ¬ 1048544 < (wStep s o).out.length ∧ wRun r (wStep s o) = some s' := by
 rw [wRun] at h
 split at h
 ·
  cases h
 ·
  rename_i hn; exact ⟨hn, h⟩
theorem wRun_pre : ∀ (os : List Obj) (s s' : WS), wRun os s = some s' → ∃ suf, s'.out = s.out ++ suf
 | [], s, s', h => by rw [wRun] at h; injection h with h; subst h; exact ⟨[], by simp⟩
 | o :: r, s, s', h => by
  obtain ⟨x, hx⟩ := wRun_pre r _ _ (wRun_cons h).2
  exact ⟨wPiece s o ++ x, by rw [hx]; show (s.out ++ wPiece s o) ++ x = _; rw [List.append_assoc]⟩
theorem wRun_len : ∀ (os : List Obj) (s s' : WS), wRun os s = some s' → s.out.length ≤ 1048544 → s'.out.length ≤ 1048544
 | [], s, s', h, hl => by rw [wRun] at h; injection h with h; subst h; exact hl
 | o :: r, s, s', h, _ => wRun_len r _ _ (wRun_cons h).2 (by have := (wRun_cons h).1; omega)
theorem behind_up {ids r : List Dig} {d : Dig} (h : Up (ids ++ d :: r)) : behind ids d = true := by
 unfold behind
 cases hx : ids.getLast? with
 | none => rfl
 | some x => exact (List.pairwise_append.1 h).2.2 _ (List.mem_of_getLast? hx) _ (List.mem_cons_self)
theorem toldK_pos {ahead b : List UInt8} {first : Bool} {depth : Nat} (h : toldK ahead b first depth = 1) : first = false ∧ depth < 4 ∧ apB ahead (toldB ahead b first depth) = (b, 0) := by
 have hn : ¬ (first = true ∨ 4 ≤ depth) := by intro hx; unfold toldK at h; rw [if_pos hx] at h; cases h
 obtain ⟨h1, h2⟩ := not_or.1 hn
 refine ⟨by simpa using h1, by omega, ?_⟩
 have hk := h
 unfold toldK at hk
 rw [if_neg hn] at hk
 split at hk
 ·
  cases hk
 rename_i h3
 obtain ⟨h4, _⟩ := not_or.1 h3
 have h5 : ¬ (4096 < ahead.length ∨ 4096 < b.length) := by
  intro hx; apply h4; unfold mkE; rw [if_pos hx]; decide
 obtain ⟨h6, h7⟩ := not_or.1 h5
 rw [toldB, if_neg (by rw [h]; decide), mkR, if_neg h5]
 exact apB_mk om_ om_
theorem robjs_wr (b : List UInt8) : ∀ (os : List Obj) (s s' : WS) (ids : List Dig) (l : List (List UInt8)), wRun os s = some s' → s'.out = b → (∀ o ∈ os, shaD o.2 = o.1 ∧ o.2.length ≤ 131072) → Up (ids ++ os.map (·.1)) → (ids = [] → s.first = true) → s.depth ≤ 4 →
  robjs b os.length ids l s.ahead s.depth s.out.length = .ok (l ++ os.map (·.2), b.length)
 | [], s, s', ids, l, h, hb, _, _, _, _ => by rw [wRun] at h; injection h with h; subst h; subst hb; simp [robjs]
 | o :: r, s, s', ids, l, h, hb, hok, hup, hf, hd => by
  obtain ⟨hn, hr⟩ := wRun_cons h
  obtain ⟨suf, hsuf⟩ := wRun_pre _ _ _ hr
  obtain ⟨ho1, ho2⟩ := hok o (List.mem_cons_self)
  obtain ⟨k, hk⟩ : ∃ k, k = toldK s.ahead o.2 s.first s.depth := ⟨_, rfl⟩
  obtain ⟨t, ht⟩ : ∃ t, t = toldB s.ahead o.2 s.first s.depth := ⟨_, rfl⟩
  have hk01 := toldK_cases s.ahead o.2 s.first s.depth
  rw [← hk] at hk01
  have htl : t.length ≤ 131072 := by have := toldB_len s.ahead o.2 s.first s.depth; rw [← ht] at this; omega
  have hbe : b = s.out ++ (o.1.1 ++ (vi k ++ (textB t ++ suf))) := by
   rw [← hb, hsuf]
   show (s.out ++ wPiece s o) ++ suf = _
   rw [wPiece, ← hk, ← ht]
   simp only [List.append_assoc]
  have g1 : gdig b s.out.length = .ok (o.1, s.out.length + 32) := by
   have := (rds_dig o.1).1 s.out (vi k ++ (textB t ++ suf))
   rw [← hbe, o.1.2] at this
   exact this
  have g2 : gnum b (s.out.length + 32) = .ok (k, s.out.length + 32 + (vi k).length) := by
   have := (rds_num (n := k) om_).1 (s.out ++ o.1.1) (textB t ++ suf)
   rw [List.length_append, o.1.2, List.append_assoc, ← hbe] at this
   exact this
  have g3 : gtext b (s.out.length + 32 + (vi k).length) = .ok (t, s.out.length + 32 + (vi k).length + (textB t).length) := by
   have := (rds_text (t := t) htl).1 (s.out ++ (o.1.1 ++ vi k)) suf
   rw [List.length_append, List.length_append, o.1.2, ← Nat.add_assoc] at this
   rw [show (s.out ++ (o.1.1 ++ vi k)) ++ (textB t ++ suf) = b by rw [hbe]; simp only [List.append_assoc]] at this
   exact this
  have hbh : behind ids o.1 = true := behind_up (r := r.map (·.1)) (by simpa using hup)
  have hk1 : k = 1 → s.first = false ∧ s.depth < 4 ∧ apB s.ahead t = (o.2, 0) := fun h1 => by rw [ht]; exact toldK_pos (by rw [← hk]; exact h1)
  have hkk : ¬ (1 < k ∨ (k = 1 ∧ ids = [])) := by
   rintro (h1 | ⟨h1, h2⟩)
   ·
    omega
   ·
    have h3 := hf h2; rw [(hk1 h1).1] at h3; cases h3
  have hdd : ¬ 4 < (s.depth + 1) * k := by
   rcases hk01 with h1 | h1
   ·
    rw [h1]; omega
   ·
    have := (hk1 h1).2.1; rw [h1]; omega
  have hrr : (k = 1 ∧ apB s.ahead t = (o.2, 0)) ∨ (k ≠ 1 ∧ o.2 = t) := by
   by_cases h1 : k = 1
   ·
    exact .inl ⟨h1, (hk1 h1).2.2⟩
   ·
    exact .inr ⟨h1, by rw [ht, toldB, if_pos (by rw [← hk]; omega)]⟩
  have hrob : robj b ids s.ahead s.depth s.out.length = .ok ((o.1, o.2, (s.depth + 1) * k), s.out.length + 32 + (vi k).length + (textB t).length) := by
   rw [robj_last g1 hbh g2 hkk hdd g3 hrr, if_neg (fun h1 => h1 ho1)]
  have hlen : s.out.length + 32 + (vi k).length + (textB t).length = (wStep s o).out.length := by
   show _ = (s.out ++ wPiece s o).length
   rw [List.length_append, wPiece, ← hk, ← ht, List.length_append, List.length_append, o.1.2]
   omega
  rw [List.length_cons, robjs_s hrob, hlen]
  have := robjs_wr b r (wStep s o) s' (ids ++ [o.1]) (l ++ [o.2]) hr hb (fun x hx => hok x (List.mem_cons_of_mem _ hx)) (by simpa using hup) (fun hx => by simp at hx) (by rcases wDepth s o with h | h; exact h; exact h.elim)
  rw [show (wStep s o).depth = (s.depth + 1) * k from by rw [hk]; rfl] at this
  rw [show (wStep s o).ahead = o.2 from rfl] at this
  rw [this]
  simp
theorem rdP_wr {os : List Obj} {q : List UInt8} (h : wrR os = (q, 0)) (hok : ∀ o ∈ os, shaD o.2 = o.1 ∧ o.2.length ≤ 131072) (hup : Up (os.map (·.1))) (hn : os.length ≤ 500) : rdP q = .ok (os.map (·.2)) := by
 unfold wrR at h
 cases hw : wRun os (wBegin os.length) with
 | none => rw [hw] at h; cases h
 | some s =>
 rw [hw] at h
 have hq : q = s.out ++ (shaD s.out).1 := (congrArg Prod.fst h).symm
 have hsh := (shaD s.out).2
 have hv := vi_len9 (n := os.length) om_
 have hv0 := vi_pos os.length
 have hl := wRun_len _ _ _ hw (by show ([82, 80, 49] ++ vi os.length).length ≤ _; rw [List.length_append]; show 3 + _ ≤ _; omega)
 obtain ⟨suf, hsuf⟩ := wRun_pre _ _ _ hw
 have hout : s.out = [82, 80, 49] ++ (vi os.length ++ suf) := by rw [hsuf]; show ([82, 80, 49] ++ vi os.length) ++ suf = _; rw [List.append_assoc]
 have hol : 4 ≤ s.out.length := by rw [hout, List.length_append, List.length_append]; show 4 ≤ 3 + _; omega
 have hql : q.length = s.out.length + 32 := by rw [hq, List.length_append, hsh]
 have ht : q.take s.out.length = s.out := by rw [hq, List.take_left]
 have hdr : q.drop s.out.length = (shaD s.out).1 := by rw [hq, List.drop_left]
 have g0 : gnum s.out 3 = .ok (os.length, 3 + (vi os.length).length) := by
  have := (rds_num (n := os.length) om_).1 [82, 80, 49] suf
  rw [← hout] at this
  exact this
 have h3 : ¬ (q.length < 3 ∨ q.take 3 ≠ [82, 80, 49]) := by
  rintro (h1 | h1)
  ·
   omega
  ·
   apply h1; rw [hq, hout]; rfl
 rw [rdP_5 (q := s.out.length) om_ h3 om_ om_ (by rw [ht, hdr]), ht]
 have := robjs_wr s.out os (wBegin os.length) s [] [] hw rfl hok (by simpa using hup) (fun _ => rfl) (Nat.zero_le _)
 refine rbody_5 g0 om_ (at_ := s.out.length) ?_ rfl
 have h5 : (wBegin os.length).out.length = 3 + (vi os.length).length := by show ([82, 80, 49] ++ vi os.length).length = _; rw [List.length_append]; rfl
 rw [h5] at this
 simpa [wBegin] using this
theorem wrR_bad {os : List Obj} {q : List UInt8} {e : Int} (h : (q, e) = wrR os) : e = 0 ∨ (e = 3 ∧ q = []) := by
 unfold wrR at h
 split at h
 ·
  injection h with h1 h2; exact .inr ⟨h2, h1⟩
 ·
  injection h with h1 h2; exact .inl h2
theorem objs_ok {l : List Ent} {xs : List (List UInt8)} (h : Holds l xs) : ∀ o ∈ objs l, shaD o.2 = o.1 ∧ o.2.length ≤ 131072 ∧ o.2 ∈ xs := by
 intro o ho
 obtain ⟨d, hd, rfl⟩ := List.mem_map.1 ho
 obtain ⟨x, hx⟩ := (names_val h.keys).1 hd
 rw [getB_val hx]
 obtain ⟨h1, h2, h3⟩ := (h.val _ _).1 hx
 exact ⟨h3, h2, h1⟩
theorem objs_up {l : List Ent} {xs : List (List UInt8)} (h : Holds l xs) : Up ((objs l).map (·.1)) := by
 have : (objs l).map (·.1) = namesL l := by rw [objs, List.map_map]; exact List.map_id'' (fun _ => rfl) _
 rw [this]; exact namesL_up h.keys
theorem WrAns.good {xs : List (List UInt8)} {q : List UInt8} (h : WrAns xs q 0) : TkOk xs ∧ ∃ l, Holds l xs ∧ (q, 0) = wrR (objs l) ∧ rdP q = .ok ((objs l).map (·.2)) ∧ (objs l).map (·.1) = keysOf xs := by
 rcases h with ⟨h1, _⟩ | ⟨l, hl, hs, hf, hq⟩
 ·
  obtain ⟨i, b, l, _, _, _, _, h0, hne⟩ := h1; exact absurd rfl hne
 ·
  refine ⟨holds_ok hl hs hf, l, hl, hq, rdP_wr hq.symm (fun o ho => ⟨(objs_ok hl o ho).1, (objs_ok hl o ho).2.1⟩) (objs_up hl) (by rw [objs_length]; exact hf), ?_⟩
  rw [← holds_keys hl hs, objs, List.map_map]; exact List.map_id'' (fun _ => rfl) _
theorem gdig_err {b : List UInt8} {at_ : Nat} {e : Int} (h : gdig b at_ = .error e) : e ≠ 0 := by
 unfold gdig at h
 split at h
 ·
  cases h
 ·
  injection h with h; omega
theorem robj_err {b : List UInt8} {ids : List Dig} {ahead : List UInt8} {depth at_ : Nat} {e : Int} (h : robj b ids ahead depth at_ = .error e) : e ≠ 0 := by
 cases hg : gdig b at_ with
 | error e => rw [robj_e1 hg] at h; injection h with h; rw [← h]; exact gdig_err hg
 | ok x1 =>
 obtain ⟨d1, a1⟩ := x1
 cases hbh : behind ids d1 with
 | false => rw [robj_e2 hg hbh] at h; injection h with h; omega
 | true =>
 cases hn : gnum b a1 with
 | error e => rw [robj_e3 hg hbh hn] at h; injection h with h; rw [← h]; exact gnum_err hn
 | ok x2 =>
 obtain ⟨k, a2⟩ := x2
 by_cases hk : 1 < k ∨ (k = 1 ∧ ids = [])
 ·
  rw [robj_e4 hg hbh hn hk] at h; injection h with h; omega
 by_cases hd : 4 < (depth + 1) * k
 ·
  rw [robj_e5 hg hbh hn hk hd] at h; injection h with h; omega
 cases ht : gtext b a2 with
 | error e => rw [robj_e6 hg hbh hn hk hd ht] at h; injection h with h; rw [← h]; exact gtext_err ht
 | ok x3 =>
 obtain ⟨s1, a3⟩ := x3
 have key : ∀ t : List UInt8, ((k = 1 ∧ apB ahead s1 = (t, 0)) ∨ (k ≠ 1 ∧ t = s1)) → e ≠ 0 := by
  intro t hr
  rw [robj_last hg hbh hn hk hd ht hr] at h
  split at h
  ·
   injection h with h; omega
  ·
   cases h
 by_cases h1 : k = 1
 ·
  by_cases ha : (apB ahead s1).2 = 0
  ·
   exact key (apB ahead s1).1 (.inl ⟨h1, Prod.ext rfl ha⟩)
  ·
   rw [robj_e7 hg hbh hn hk hd ht h1 ha] at h; injection h with h; omega
 ·
  exact key s1 (.inr ⟨h1, rfl⟩)
theorem robjs_err {b : List UInt8} {e : Int} : ∀ (n : Nat) (ids : List Dig) (l : List (List UInt8)) (ahead : List UInt8) (depth at_ : Nat), robjs b n ids l ahead depth at_ = .error e → e ≠ 0
 | 0, _, _, _, _, _, h => by simp [robjs] at h
 | n + 1, ids, l, ahead, depth, at_, h => by
  cases hr : robj b ids ahead depth at_ with
  | error e => rw [robjs_e hr] at h; injection h with h; rw [← h]; exact robj_err hr
  | ok x => obtain ⟨⟨d, s, dp⟩, a⟩ := x; rw [robjs_s hr] at h; exact robjs_err n _ _ _ _ _ h
theorem rdP_err {q : List UInt8} {e : Int} (h : rdP q = .error e) : e ≠ 0 := by
 by_cases h1 : 1048576 < q.length
 ·
  rw [rdP_1 h1] at h; injection h with h; omega
 by_cases h2 : q.length < 3 ∨ q.take 3 ≠ [82, 80, 49]
 ·
  rw [rdP_2 h1 h2] at h; injection h with h; omega
 by_cases h3 : q.length < 35
 ·
  rw [rdP_3 h1 h2 h3] at h; injection h with h; omega
 have hq : q.length - 32 + 32 = q.length := by omega
 by_cases h4 : (shaD (q.take (q.length - 32))).1 = q.drop (q.length - 32)
 ·
  rw [rdP_5 h1 h2 h3 hq h4] at h
  cases hg : gnum (q.take (q.length - 32)) 3 with
  | error e => rw [rbody_1 hg] at h; injection h with h; rw [← h]; exact gnum_err hg
  | ok x =>
   obtain ⟨n, a⟩ := x
   by_cases hn : 500 < n
   ·
    rw [rbody_2 hg hn] at h; injection h with h; omega
   cases hr : robjs (q.take (q.length - 32)) n [] [] [] 0 a with
   | error e => rw [rbody_3 hg hn hr] at h; injection h with h; rw [← h]; exact robjs_err _ _ _ _ _ _ hr
   | ok y =>
    obtain ⟨l, at_⟩ := y
    by_cases ht : at_ = (q.take (q.length - 32)).length
    ·
     rw [rbody_5 hg hn hr ht] at h; cases h
    ·
     rw [rbody_4 hg hn hr ht] at h; injection h with h; omega
 ·
  rw [rdP_4 h1 h2 h3 hq h4] at h; injection h with h; omega
section
variable {q : List UInt8} {l : List (List UInt8)} {i : Nat} {x y : UInt8} (h : rdP q = .ok l) (hi : q[i]? = some y) (hx : x ≠ y)
include h hi hx
end
theorem wrAns_one {x : List UInt8} {q : List UInt8} {e : Int} (hx : x.length ≤ 131072) (h : WrAns [x, x] q e) : e = 0 ∧ q.length = 3 + 1 + 32 + 1 + (textB x).length + 32 ∧ rdP q = .ok [x] := by
 have hok : TkOk [x, x] := by
  refine ⟨fun b hb => by simp at hb; subst hb; exact hx, ?_, ?_⟩
  ·
   intro a ha b hb _ _ _; simp at ha hb; rw [ha, hb]
  ·
   have hk : keysOf [x, x] = [shaD x] := up_eq (keysOf_up _) (List.pairwise_singleton _ _) fun d => by rw [keysOf_mem]; simp [eq_comm]
   rw [hk]; show 1 ≤ 500; omega
 rcases h with ⟨h1, _⟩ | ⟨l, hl, hs, hf, hq⟩
 ·
  exact absurd hok (tkErr_no h1)
 have hk : keysOf [x, x] = [shaD x] := up_eq (keysOf_up _) (List.pairwise_singleton _ _) fun d => by rw [keysOf_mem]; simp [eq_comm]
 have hn : namesL l = [shaD x] := by rw [holds_keys hl hs, hk]
 have ho : objs l = [(shaD x, x)] := by
  rw [objs, hn]
  have hm := objs_ok hl (shaD x, getB l (shaD x)) (by rw [objs, hn]; exact List.mem_singleton.2 rfl)
  have : getB l (shaD x) = x := by have := hm.2.2; simpa using this
  simp [this]
 have he : e = 0 := by
  rcases wrR_bad hq with h1 | h1
  ·
   exact h1
  ·
   exfalso
   rw [ho] at hq
   unfold wrR at hq
   have hp := wPiece_len (wBegin 1) (shaD x, x) hx
   rw [wRun, if_neg (by show ¬ 1048544 < (([82, 80, 49] ++ vi 1) ++ wPiece (wBegin 1) (shaD x, x)).length; rw [List.length_append, List.length_append]; have := vi_len9 (n := 1) om_; show ¬ 1048544 < 3 + _ + _; omega), wRun] at hq
   have := congrArg Prod.snd hq
   rw [h1.1] at this
   cases this
 subst he
 have hg := WrAns.good (xs := [x, x]) (q := q) (.inr ⟨l, hl, hs, hf, hq⟩)
 refine ⟨rfl, ?_, ?_⟩
 ·
  rw [ho] at hq
  unfold wrR at hq
  have hp := wPiece_len (wBegin 1) (shaD x, x) hx
  rw [wRun, if_neg (by show ¬ 1048544 < (([82, 80, 49] ++ vi 1) ++ wPiece (wBegin 1) (shaD x, x)).length; rw [List.length_append, List.length_append]; have := vi_len9 (n := 1) om_; show ¬ 1048544 < 3 + _ + _; omega), wRun] at hq
  have hq := congrArg Prod.fst hq
  simp only [] at hq
  rw [hq, List.length_append, (shaD _).2]
  show ((([82, 80, 49] ++ vi 1) ++ wPiece (wBegin 1) (shaD x, x)).length) + 32 = _
  have hk0 : toldK (wBegin 1).ahead x (wBegin 1).first (wBegin 1).depth = 0 := by unfold toldK; rw [if_pos (.inl rfl)]
  have hb0 : toldB (wBegin 1).ahead x (wBegin 1).first (wBegin 1).depth = x := by unfold toldB; rw [if_pos hk0]
  simp only [wPiece, hk0, hb0, List.length_append, (shaD x).2, vi_lt (show 1 < 128 by decide), vi_lt (show 0 < 128 by decide), List.length_cons, List.length_nil]
  omega
 ·
  obtain ⟨_, l2, hl2, _, hr, hk2⟩ := hg
  have hn2 : namesL l2 = [shaD x] := by rw [holds_keys hl2 hs, hk]
  have ho2 : objs l2 = [(shaD x, x)] := by
   rw [objs, hn2]
   have hm := objs_ok hl2 (shaD x, getB l2 (shaD x)) (by rw [objs, hn2]; exact List.mem_singleton.2 rfl)
   have : getB l2 (shaD x) = x := by have := hm.2.2; simpa using this
   simp [this]
  rw [hr, ho2]
  rfl
end Go.Proofs.YtfanmpbapabboaaGreatDoor
/- recensionlaw12's alive, walked; two lists of texts; PackHeads. No condition but the bounds of what is handed in. -/
namespace Go.Fw
open Go.RowKit
theorem run_bs2p {P : Program} {t e : TypeId} {ie : TypeInfo} {z : Value} {a b : Value} (hu : P.underlying t = some (.slice e)) (hi : P.info? e = some ie) (hz : ie.zero = some z) (h1 : ie.size = 1) (ha : a.cells = #[a]) (hb : b.cells = #[b]) (w : World) :
  (Instr.buildSlice t 2 [(0, a), (1, b)].toArray).run P w = .ok (.slice (some ⟨w.heap.size, 0, none⟩) 2 2) (w.alloc (.cells [a, b].toArray e)) := by
 refine run_buildSlice w t e 2 _ _ ie z hu hi hz om_ om_ ?_
 have h := Go.Great.fill_whole (s := ie.size) om_ [a, b] ((Array.range (2 * ie.size)).map (z.cells[· % z.cells.size]!)) (by intro u hu; simp at hu; rcases hu with rfl | rfl <;> simp [*]) (by simp)
 simpa [ha, hb] using h
theorem WL.gst {P : Program} {n : NN} {Φ : Exit → Fr → World → Prop} {fr : Fr} {w : World} {ty : TypeId} {R : Value → World → Prop} {ops : Array Oper} {rest : List Oper} {d j dj : Nat} {b : Bool} {o : Op} {pos : String} {aft : Array Edge}
  (hj : (ops[j]?).bind (·.dst) = some dj) (hg : fr.get dj = some (.bool b))
  (hs : St P n fr o ty w R) (hd : d < n.1) (h : ∀ v w', R v w' → WL P ops n Φ rest ((d, v) :: fr) w') : WL P ops n Φ (⟨some d, o, ty, pos, aft, some (j, b)⟩ :: rest) fr w := fun a ha =>
 wpList_step fun K hK => by
  obtain ⟨v, w', hr, hR⟩ := hs a ⟨some d, o, ty, pos, aft, some (j, b)⟩ rfl rfl ha
  rw [if_pos (by simp [Region.wanted, yielded_eq ha hj hg])]
  unfold Oper.wp
  rw [hr]
  exact hK _ _ (h v w' hR _ (ha.put hd v))
end Go.Fw
namespace Go.Proofs.YtfanmpbapabboaaGreatDoor
open Go.RowKit Go.Fw Go.Pl Go.Sort
theorem bs2_strp (a b : ByteArray) (w : World) : (Instr.buildSlice TSs 2 [(0, .string a), (1, .string b)].toArray).run Tryz.prog w = .ok (.slice (some ⟨w.heap.size, 0, none⟩) 2 2) (w.alloc (.cells [.string a, .string b].toArray TStr)) := by
 obtain ⟨i, z, hi, hz, hk, _⟩ := ai_str
 exact run_bs2p Tryz.underlying22 hi hz hk rfl rfl w
theorem Blk.slS {w : World} {g : Nat} {e : TypeId} {xs : List (List UInt8)} (h : Blk w g e (xs.map fun x => .string (bs x))) (hl : xs.length ≤ maxLen) : Sl w strC 1 (.slice (some ⟨g, 0, none⟩) xs.length xs.length) xs :=
 ⟨_, _, _, rfl, rfl, Nat.le_refl _, hl, fun i x hi => ⟨_, rfl, by
  rw [Nat.mul_one]
  exact h.mem.sub i fun j v hj => by
   cases j with
   | zero => simp [strC] at hj; subst hj; simp [hi]
   | succ j => simp [strC] at hj⟩⟩
theorem RdAns.split {p : List UInt8} {w w' : World} {v : Value} (h : RdAns p w v w') : Ext w w' ∧ ∃ e A m c, v = .tuple #[.slice A m c, .int .i64 e] ∧ (∀ k, (Value.slice A m c).ownBlock = some k → w.heap.size ≤ k) ∧
  ((e = 0 ∧ ∃ l, rdP p = .ok l ∧ Own w' TStr 1 (.slice A m c) (flatS l)) ∨ (rdP p = .error e ∧ e ≠ 0 ∧ m = 0)) := by
 obtain ⟨lv, hx, hlw, ⟨l, hl, rfl, hO⟩ | ⟨e, he, rfl, rfl⟩⟩ := h
 ·
  obtain ⟨A, m, c, rfl⟩ := hO.lens
  exact ⟨hx, 0, A, m, c, rfl, hlw, .inl ⟨rfl, l, hl, hO⟩⟩
 ·
  exact ⟨hx, e, none, 0, 0, rfl, hlw, .inr ⟨he, rdP_err he, rfl⟩⟩
theorem psame_any (u v : Value) (xs ys : List (List UInt8)) (w : World) (hu : Sl w strC 1 u xs) (hv : Sl w strC 1 v ys) : Calls Tryz.prog 6 #[u, v] w (Ret fun r w' => r = .bool (decide (xs = ys)) ∧ Ext w w') := by
 obtain ⟨A, m, c, rfl, hm, hmc, hcm, hux⟩ := id hu
 obtain ⟨B, n, d, rfl, hn, hnd, hdm, hvx⟩ := id hv
 unfold maxLen at hcm hdm
 refine calls_of_CW 26 [4] [(0, .slice A m c), (1, .slice B n d)] Tryz.func6 rfl rfl rfl (by simp) args2 ?_
 have hE : Ext w w := Chg.refl
 refine CW.sr fun K1 hK1 => ?_
 refine WL.a rfl ?_
 refine WL.nil (hK1 _ _ ?_); try clear hK1
 refine CW.seq fun K2 hK2 => ?_
 refine CW.sr fun K3 hK3 => ?_
 refine WL.m rfl ?_
 refine WL.v (Y.len_slice Tryz.underlying22 rfl) ?_
 refine WL.m rfl ?_
 refine WL.v (Y.len_slice Tryz.underlying22 rfl) ?_
 refine WL.v (Y.neq rfl rfl) ?_
 refine WL.nil (hK3 _ _ ?_); try clear hK3
 (first | refine cd_ rfl ?_ ?_ | refine ce_ rfl ?_ ?_ | refine cn_ rfl ?_ ?_ | refine cb_ rfl ?_ ?_) <;> intro ht4
 ·
  -- then
  refine CW.sr fun K5 hK5 => ?_
  refine WL.a rfl ?_
  refine WL.nil (hK5 _ _ ?_); try clear hK5
  refine CW.ret ⟨_, rfl, ?_⟩
  exact ⟨by rw [decide_eq_false (fun h => by subst h; omega)], hE⟩
 refine CW.skip ?_
 refine hK2 _ _ ?_; try clear hK2
 refine CW.seq fun K6 hK6 => ?_
 refine CW.sr fun K7 hK7 => ?_
 refine WL.a rfl ?_
 refine WL.nil (hK7 _ _ ?_); try clear hK7
 refine CW.block ?_
 refine CW.loop (X := Nat) (fun x => [(0, .slice A m c), (1, .slice B n d), (5, .int .i64 (x : Int))]) (fun x w0 => x ≤ xs.length ∧ xs.take x = ys.take x ∧ Ext w w0) (fun x => xs.length - x) 0 Fr.ok ⟨Nat.zero_le _, by simp, hE⟩ ?_
 intro x w1 hl1
 obtain ⟨hx, hpre, hE⟩ := hl1
 refine CW.seq fun K8 hK8 => ?_
 refine CW.sr fun K9 hK9 => ?_
 refine WL.m rfl ?_
 refine WL.m rfl ?_
 refine WL.v (Y.len_slice Tryz.underlying22 rfl) ?_
 refine WL.v (Y.lss rfl rfl) ?_
 refine WL.nil (hK9 _ _ ?_); try clear hK9
 (first | refine cd_ rfl ?_ ?_ | refine ce_ rfl ?_ ?_ | refine cn_ rfl ?_ ?_ | refine cb_ rfl ?_ ?_) <;> intro ht10
 ·
  -- then
  refine CW.skip ?_
  refine hK8 _ _ ?_; try clear hK8
  refine CW.seq fun K11 hK11 => ?_
  refine CW.block ?_
  refine CW.seq fun K12 hK12 => ?_
  obtain ⟨px, hpx⟩ : ∃ p, xs[x]? = some p := ⟨_, List.getElem?_eq_getElem om_⟩
  obtain ⟨py, hpy⟩ : ∃ p, ys[x]? = some p := ⟨_, List.getElem?_eq_getElem om_⟩
  obtain ⟨a, rfl, hma⟩ := (hu.ext hE).at hpx
  obtain ⟨b, rfl, hmb⟩ := (hv.ext hE).at hpy
  refine CW.quiet (fun wq => Ext w1 wq) kr_ kr_ Chg.drew ?_
  refine QL.m rfl ?_
  refine QL.m rfl ?_
  refine QL.v (fun wq hq => Y.indexAddrN Tryz.underlying22 rfl rfl sz0_string om_) ?_
  refine QL.v (fun wq hq => Y.load1 Tryz.underlying9 rfl (hma.ext hq).cell0 rfl) ?_
  refine QL.m rfl ?_
  refine QL.m rfl ?_
  refine QL.v (fun wq hq => Y.indexAddrN Tryz.underlying22 rfl rfl sz0_string om_) ?_
  refine QL.v (fun wq hq => Y.load1 Tryz.underlying9 rfl (hmb.ext hq).cell0 rfl) ?_
  refine QL.v (fun wq hq => Y.neq_string rfl rfl) ?_
  refine QL.nil fun w2 hx2 => ?_
  have hz2 := hx2.size
  have hE := hE.thenExt hx2
  refine hK12 _ _ ?_; try clear hK12
  (first | refine cd_ rfl ?_ ?_ | refine ce_ rfl ?_ ?_ | refine cn_ rfl ?_ ?_ | refine cb_ rfl ?_ ?_) <;> intro ht13
  ·
   -- then
   refine CW.sr fun K14 hK14 => ?_
   refine WL.a rfl ?_
   refine WL.nil (hK14 _ _ ?_); try clear hK14
   refine CW.ret ⟨_, rfl, ?_⟩
   exact ⟨by rw [decide_eq_false (fun h => by subst h; rw [hpx] at hpy; injection hpy with hpy; subst hpy; simp at ht13)], hE⟩
  refine CW.skip ?_
  refine hK11 _ _ ?_; try clear hK11
  refine CW.region ?_
  refine WL.m rfl ?_
  refine WL.v (Y.add rfl rfl o2_) ?_
  refine WL.a rfl ?_
  refine WL.nil ?_
  have hpq : px = py := by simpa [bs_toList] using ht13
  refine ⟨x + 1, by show xs.length - (x + 1) < xs.length - x; omega, Fr.ok, by show x + 1 ≤ xs.length; omega, ?_, hE⟩
  show xs.take (x + 1) = ys.take (x + 1)
  rw [take_succ hpx, take_succ hpy, hpre, hpq]
 refine CW.exit ?_
 refine hK6 _ _ ?_; try clear hK6
 refine CW.sr fun K15 hK15 => ?_
 refine WL.a rfl ?_
 refine WL.nil (hK15 _ _ ?_); try clear hK15
 refine CW.ret ⟨_, rfl, ?_⟩
 exact ⟨by rw [decide_eq_true (by have h1 : xs.take x = xs := List.take_of_length_le om_; have h2 : ys.take x = ys := List.take_of_length_le om_; rw [← h1, ← h2]; exact hpre)], hE⟩
theorem palive_any (w : World) (hK : Mem w ⟨0, 0, none⟩ (wds keysL)) : Calls Tryz.prog 7 #[] w (Ret fun r w' => r = .bool true ∧ Ext w w') := by
 refine calls_of_CW 31 [0] [] Tryz.func7 rfl rfl rfl (by simp) args0 ?_
 have hE : Ext w w := Chg.refl
 refine CW.sr fun K1 hK1 => ?_
 refine WL.a rfl ?_
 refine WL.nil (hK1 _ _ ?_); try clear hK1
 refine CW.sr fun K2 hK2 => ?_
 refine WL.st (St.buildSlice rfl (bs2_strp _ _)) de_ fun v6 w1 hR1 => ?_
 obtain ⟨g6, rfl, hg6, hB6, hx1⟩ := hR1
 have hz1 := hx1.size
 have hE := hE.thenExt hx1
 have hK := hK.ext hx1
 refine WL.call Tryz.func18 rfl rfl rfl (pwrite_any _ [[97], [97]] _ (Blk.slS (xs := [[97], [97]]) hB6 (by simp [maxLen])) (fun x hx => by simp at hx; subst hx; simp) hK) (by simp) ?_; rintro v7 w2 hR2
 obtain ⟨⟨q, e, rfl, hW⟩, hx2⟩ := hR2
 have hz2 := hx2.size
 have hE := hE.thenExt hx2
 have hK := hK.ext hx2
 obtain ⟨rfl, hql, hrq⟩ := wrAns_one de_ hW
 have hq71 : (bs q).size = 71 := by rw [bs_size, hql, textB, vi_lt de_]; rfl
 refine WL.m rfl ?_
 refine WL.v (Y.extract rfl rfl) ?_
 refine WL.v (Y.extract rfl rfl) ?_
 refine WL.a rfl ?_
 refine WL.a rfl ?_
 refine WL.nil (hK2 _ _ ?_); try clear hK2
 refine CW.sr fun K3 hK3 => ?_
 refine WL.m rfl ?_
 refine WL.call Tryz.func19 rfl rfl rfl (pread_any q _ hK) (by simp) ?_; rintro v12 w3 hR3
 obtain ⟨hx3, e9, A3, m3, c3, rfl, hlw, ⟨rfl, l9, hl9, hO⟩ | ⟨he9, _⟩⟩ := RdAns.split hR3
 rotate_left
 ·
  rw [hrq] at he9; cases he9
 obtain rfl : [[97]] = l9 := by rw [hrq] at hl9; injection hl9
 have hz3 := hx3.size
 have hE := hE.thenExt hx3
 have hK := hK.ext hx3
 refine WL.m rfl ?_
 refine WL.v (Y.extract rfl rfl) ?_
 refine WL.v (Y.extract rfl rfl) ?_
 refine WL.a rfl ?_
 refine WL.a rfl ?_
 refine WL.nil (hK3 _ _ ?_); try clear hK3
 refine CW.sr fun K4 hK4 => ?_
 refine WL.m rfl ?_
 refine WL.v (Y.eql rfl rfl) ?_
 refine WL.m rfl ?_
 (first | refine WL.casesD (d := 17) rfl ?_ ?_ | refine WL.casesND (d := 17) rfl ?_ ?_ | refine WL.cases (d := 17) rfl ?_ ?_) <;> intro hg17
 ·
  -- t17 = T
  refine WL.g rfl rfl (Y.move rfl) ?_
  refine WL.g rfl rfl (Y.eql rfl rfl) ?_
  refine WL.v (Y.pick rfl rfl) ?_
  refine WL.m rfl ?_
  (first | refine WL.casesD (d := 21) rfl ?_ ?_ | refine WL.casesND (d := 21) rfl ?_ ?_ | refine WL.cases (d := 21) rfl ?_ ?_) <;> intro hg21
  ·
   -- t21 = T
   refine WL.g rfl rfl (Y.move rfl) ?_
   refine WL.g rfl rfl (Y.len_string Tryz.underlying9 rfl) ?_
   refine WL.g rfl rfl (Y.eql rfl rfl) ?_
   refine WL.v (Y.pick rfl rfl) ?_
   refine WL.m rfl ?_
   (first | refine WL.casesD (d := 26) rfl ?_ ?_ | refine WL.casesND (d := 26) rfl ?_ ?_ | refine WL.cases (d := 26) rfl ?_ ?_) <;> intro hg26
   ·
    -- t26 = T
    refine WL.g rfl rfl (Y.move rfl) ?_
    refine WL.gst rfl rfl (St.buildSlice rfl (bs1_str _)) de_ fun v28 w4 hR4 => ?_
    obtain ⟨g28, rfl, hg28, hB28, hx4⟩ := hR4
    have hz4 := hx4.size
    have hE := hE.thenExt hx4
    have hK := hK.ext hx4
    refine WL.gcall rfl rfl Tryz.func6 rfl rfl rfl (psame_any _ _ [[97]] [[97]] _ ((hO.ext hx4).sl strC_length de_) (Blk.slS (xs := [[97]]) hB28 (by simp [maxLen]))) de_ ?_; rintro v29 w5 hR5
    obtain ⟨rfl, hx5⟩ := hR5
    have hz5 := hx5.size
    have hE := hE.thenExt hx5
    have hK := hK.ext hx5
    refine WL.v (Y.pick rfl rfl) ?_
    refine WL.a rfl ?_
    refine WL.nil (hK4 _ _ ?_); try clear hK4
    refine CW.ret ⟨_, rfl, ?_⟩
    exact ⟨by simp, hE⟩
   ·
    -- t26 = F
    refine WL.o rfl rfl ?_
    refine WL.o rfl rfl ?_
    refine WL.o rfl rfl ?_
    refine WL.v (Y.pick rfl rfl) ?_
    refine WL.a rfl ?_
    refine WL.nil (hK4 _ _ ?_); try clear hK4
    refine CW.ret ⟨_, rfl, ?_⟩
    exact absurd (by rw [hq71]; rfl) hg26
  ·
   -- t21 = F
   refine WL.o rfl rfl ?_
   refine WL.o rfl rfl ?_
   refine WL.o rfl rfl ?_
   refine WL.v (Y.pick rfl rfl) ?_
   refine WL.m rfl ?_
   refine WL.o rfl rfl ?_
   refine WL.o rfl rfl ?_
   refine WL.o rfl rfl ?_
   refine WL.v (Y.pick rfl rfl) ?_
   refine WL.a rfl ?_
   refine WL.nil (hK4 _ _ ?_); try clear hK4
   refine CW.ret ⟨_, rfl, ?_⟩
   exact absurd rfl hg21
 ·
  -- t17 = F
  refine WL.o rfl rfl ?_
  refine WL.o rfl rfl ?_
  refine WL.v (Y.pick rfl rfl) ?_
  refine WL.m rfl ?_
  refine WL.o rfl rfl ?_
  refine WL.o rfl rfl ?_
  refine WL.o rfl rfl ?_
  refine WL.v (Y.pick rfl rfl) ?_
  refine WL.m rfl ?_
  refine WL.o rfl rfl ?_
  refine WL.o rfl rfl ?_
  refine WL.o rfl rfl ?_
  refine WL.v (Y.pick rfl rfl) ?_
  refine WL.a rfl ?_
  refine WL.nil (hK4 _ _ ?_); try clear hK4
  refine CW.ret ⟨_, rfl, ?_⟩
  exact absurd rfl hg17
end Go.Proofs.YtfanmpbapabboaaGreatDoor
/- Rises and In of the reference, walked. No condition. -/
namespace Go.Proofs.YtfanmpbapabboaaGreatDoor
open Go.RowKit Go.Fw Go.Pl Go.Sort
theorem pIn_any (u : Value) (l : List Dig) (k : Dig) (w : World) (hl : Sl w digC 32 u l) : Calls Tryz.prog 14 #[u, digV k] w (Ret fun r w' => r = .bool (decide (k ∈ l)) ∧ Ext w w') := by
 obtain ⟨A, m, c, rfl, hm, hmc, hcm, hux⟩ := id hl
 unfold maxLen at hcm
 refine calls_of_CW 18 [4] [(0, .slice A m c), (1, digV k)] Tryz.func14 rfl rfl rfl (by simp) args2 ?_
 have hE : Ext w w := Chg.refl
 refine CW.sr fun K1 hK1 => ?_
 refine WL.box rfl rfl de_ fun g3 w1 hx1 hg3 hB3 => ?_
 have hlt3 := hB3.lt; have hz1 := hx1.size
 have hM3 := hB3.mem; have hz1 := hx1.size; have hE := hE.thenExt hx1
 refine WL.a rfl ?_
 refine WL.nil (hK1 _ _ ?_); try clear hK1
 refine CW.seq fun K2 hK2 => ?_
 refine CW.sr fun K3 hK3 => ?_
 refine WL.a rfl ?_
 refine WL.nil (hK3 _ _ ?_); try clear hK3
 refine CW.block ?_
 refine CW.loop (X := Nat) (fun x => [(0, .slice A m c), (3, .pointer (some ⟨g3, 0, none⟩)), (5, .int .i64 (x : Int))]) (fun x w0 => x ≤ l.length ∧ k ∉ l.take x ∧ Ext w w0 ∧ Blk w0 g3 38 (digC k)) (fun x => l.length - x) 0 Fr.ok ⟨Nat.zero_le _, by simp, hE, hB3⟩ ?_
 intro x w2 hl2
 obtain ⟨hx, hno, hE, hB3⟩ := hl2
 refine CW.seq fun K4 hK4 => ?_
 refine CW.sr fun K5 hK5 => ?_
 refine WL.m rfl ?_
 refine WL.m rfl ?_
 refine WL.v (Y.len_slice Tryz.underlying23 rfl) ?_
 refine WL.v (Y.lss rfl rfl) ?_
 refine WL.nil (hK5 _ _ ?_); try clear hK5
 (first | refine cd_ rfl ?_ ?_ | refine ce_ rfl ?_ ?_ | refine cn_ rfl ?_ ?_ | refine cb_ rfl ?_ ?_) <;> intro ht6
 ·
  -- then
  refine CW.skip ?_
  refine hK4 _ _ ?_; try clear hK4
  refine CW.seq fun K7 hK7 => ?_
  refine CW.block ?_
  refine CW.seq fun K8 hK8 => ?_
  obtain ⟨d, hd⟩ : ∃ d, l[x]? = some d := ⟨_, List.getElem?_eq_getElem om_⟩
  obtain ⟨a, rfl, hmd⟩ := (hl.ext hE).at hd
  refine CW.quiet (fun wq => Ext w2 wq) kr_ kr_ Chg.drew ?_
  refine QL.m rfl ?_
  refine QL.m rfl ?_
  refine QL.v (fun wq hq => Y.indexAddrN Tryz.underlying23 rfl rfl sz0_apiDigest om_) ?_
  refine QL.v (fun wq hq => Y.load Tryz.underlying38 rfl (hmd.ext hq) (sz_apiDigest _) rfl) ?_
  refine QL.v (fun wq hq => Y.load Tryz.underlying38 rfl (hB3.ext hq).mem (sz_apiDigest _) rfl) ?_
  refine QL.v (fun wq hq => Y.eql_apiDigest rfl rfl) ?_
  refine QL.nil fun w3 hx3 => ?_
  have hz3 := hx3.size
  have hE := hE.thenExt hx3
  have hB3 := hB3.ext hx3
  refine hK8 _ _ ?_; try clear hK8
  (first | refine cd_ rfl ?_ ?_ | refine ce_ rfl ?_ ?_ | refine cn_ rfl ?_ ?_ | refine cb_ rfl ?_ ?_) <;> intro ht9
  ·
   -- then
   refine CW.sr fun K10 hK10 => ?_
   refine WL.a rfl ?_
   refine WL.nil (hK10 _ _ ?_); try clear hK10
   refine CW.ret ⟨_, rfl, ?_⟩
   have hkl : k ∈ l := by
    have h : d = k := by assumption
    rw [← h]
    exact List.mem_of_getElem? hd
   exact ⟨by rw [decide_eq_true hkl], hE⟩
  refine CW.skip ?_
  refine hK7 _ _ ?_; try clear hK7
  refine CW.region ?_
  refine WL.m rfl ?_
  refine WL.v (Y.add rfl rfl o2_) ?_
  refine WL.a rfl ?_
  refine WL.nil ?_
  refine ⟨x + 1, by show l.length - (x + 1) < l.length - x; omega, Fr.ok, by show x + 1 ≤ l.length; omega, ?_, hE, hB3⟩
  show k ∉ l.take (x + 1)
  rw [take_succ hd, List.mem_append, List.mem_singleton]
  have hne : ¬ d = k := by assumption
  rintro (h | h)
  ·
   exact hno h
  ·
   exact hne h.symm
 refine CW.exit ?_
 refine hK2 _ _ ?_; try clear hK2
 refine CW.sr fun K11 hK11 => ?_
 refine WL.a rfl ?_
 refine WL.nil (hK11 _ _ ?_); try clear hK11
 refine CW.ret ⟨_, rfl, ?_⟩
 exact ⟨by rw [decide_eq_false (by have h1 : l.take x = l := List.take_of_length_le om_; rw [← h1]; exact hno)], hE⟩
end Go.Proofs.YtfanmpbapabboaaGreatDoor
/- The reference: taken and Reach, walked. No condition. -/
namespace Go.Proofs.YtfanmpbapabboaaGreatDoor
open Go.RowKit Go.Fw Go.Pl Go.Sort
theorem build_recensionref11Store (w : World) : (Instr.build TRS #[]).run Tryz.prog w = .ok (.agg [Value.slice none 0 0, Value.slice none 0 0].toArray) w := run_build w _ _ _ kr_
theorem rTaken_any (u : Value) (xs : List (List UInt8)) (w : World) (hu : Sl w strC 1 u xs) : Calls Tryz.prog 13 #[u] w (Ret fun r w' => ∃ p e, r = .tuple #[p, .int .i64 e] ∧ (e ≠ 0 → TkErr xs e ∧ p = .pointer none) ∧ (e = 0 → ∃ g rs, p = .pointer (some ⟨g, 0, none⟩) ∧ (∃ u v, RAt w' g u v rs) ∧ RTk xs rs ∧ ∀ b ∈ xs, b.length ≤ 131072) ∧ Ext w w') := by
 obtain ⟨A, m, c, rfl, hm, hmc, hcm, hux⟩ := hu
 unfold maxLen at hcm
 refine calls_of_CW 29 [2, 3] [(0, .slice A m c)] Tryz.func13 rfl rfl rfl (by simp) args1 ?_
 have hE : Ext w w := Chg.refl
 refine CW.sr fun K1 hK1 => ?_
 refine WL.a rfl ?_
 refine WL.a rfl ?_
 refine WL.nil (hK1 _ _ ?_); try clear hK1
 refine CW.sr fun K2 hK2 => ?_
 refine WL.v (Y.build0 (build_recensionref11Store _)) ?_
 refine WL.box rfl rfl de_ fun g9 w1 hx1 hg9 hB9 => ?_
 have hlt9 := hB9.lt; have hz1 := hx1.size
 have hM9 := hB9.mem; have hz1 := hx1.size; have hE := hE.thenExt hx1
 refine WL.a rfl ?_
 refine WL.nil (hK2 _ _ ?_); try clear hK2
 refine CW.seq fun K3 hK3 => ?_
 refine CW.sr fun K4 hK4 => ?_
 refine WL.a rfl ?_
 refine WL.nil (hK4 _ _ ?_); try clear hK4
 refine CW.block ?_
 refine CW.loop (X := RL × Nat) (fun x => [(0, .slice A m c), (4, .pointer (some ⟨g9, 0, none⟩)), (5, .int .i64 (x.2 : Int))]) (fun x w0 => x.2 ≤ m ∧ (∃ u v, RAt w0 g9 u v x.1 ∧ (∀ k, u.ownBlock = some k → w.heap.size ≤ k) ∧ (∀ k, v.ownBlock = some k → w.heap.size ≤ k)) ∧ RTk (xs.take x.2) x.1 ∧ (∀ b ∈ xs.take x.2, b.length ≤ 131072) ∧ Ext w w0) (fun x => m - x.2) ([], 0) Fr.ok ⟨Nat.zero_le _, ⟨_, _, ⟨hB9, by simpa [flatD] using Own.nil, by simpa [flatS] using Own.nil, (fun k h => by simp [Value.ownBlock] at h), (fun k h => by simp [Value.ownBlock] at h), by simp, by simp⟩, (fun k h => by simp [Value.ownBlock] at h), (fun k h => by simp [Value.ownBlock] at h)⟩, by simpa using RTk.nil, (fun b hb => by simp at hb), hE⟩ ?_
 intro x w2 hl2
 clear hE hB9 hM9
 obtain ⟨rs, x⟩ := x
 dsimp only at hl2 ⊢
 obtain ⟨hx, ⟨u, v, hR, hu, hv⟩, hT, hsh, hE⟩ := hl2
 have hzE := hE.size
 refine CW.seq fun K5 hK5 => ?_
 refine CW.sr fun K6 hK6 => ?_
 refine WL.m rfl ?_
 refine WL.m rfl ?_
 refine WL.v (Y.len_slice Tryz.underlying22 rfl) ?_
 refine WL.v (Y.lss rfl rfl) ?_
 refine WL.nil (hK6 _ _ ?_); try clear hK6
 (first | refine cd_ rfl ?_ ?_ | refine ce_ rfl ?_ ?_ | refine cn_ rfl ?_ ?_ | refine cb_ rfl ?_ ?_) <;> intro ht7
 ·
  -- then
  refine CW.skip ?_
  refine hK5 _ _ ?_; try clear hK5
  refine CW.seq fun K8 hK8 => ?_
  refine CW.block ?_
  refine CW.seq fun K9 hK9 => ?_
  obtain ⟨b, hb⟩ : ∃ y, xs[x]? = some y := ⟨_, List.getElem?_eq_getElem om_⟩
  obtain ⟨a, rfl, hma⟩ := hux _ _ hb
  refine CW.region ?_
  refine WL.m rfl ?_
  refine WL.m rfl ?_
  refine WL.m rfl ?_
  refine WL.v (Y.indexAddrN Tryz.underlying22 rfl rfl sz0_string om_) ?_
  refine WL.v (Y.load1 Tryz.underlying9 rfl ((hma.ext hE).cell0) rfl) ?_
  refine WL.call Tryz.func27 rfl rfl rfl (rPut_any g9 u v rs b _ hR) (by simp) ?_; rintro v22 w3 hR3
  obtain ⟨rfl, ⟨u2, v2, hR2, hu2, hv2⟩, hc3⟩ := hR3
  have hz3 := hc3.size
  have hE := hE.step hc3 (fun k h => by rcases h with h | h | h; omega; exact hu k h; exact hv k h)
  refine WL.m rfl ?_
  refine WL.v (Y.extract rfl rfl) ?_
  refine WL.v (Y.extract rfl rfl) ?_
  refine as_apiDigest rfl (by simp) de_ fun g6 w4 hx4 hg6 hB6 => ?_
  have hlt6 := hB6.lt; have hz4 := hx4.size
  have hM6 := hB6.mem; have hz4 := hx4.size; have hE := hE.thenExt hx4
  refine WL.a rfl ?_
  refine WL.nil (hK9 _ _ ?_); try clear hK9
  refine CW.sr fun K10 hK10 => ?_
  refine WL.m rfl ?_
  refine WL.v (Y.neq rfl rfl) ?_
  refine WL.nil (hK10 _ _ ?_); try clear hK10
  (first | refine cd_ rfl ?_ ?_ | refine ce_ rfl ?_ ?_ | refine cn_ rfl ?_ ?_ | refine cb_ rfl ?_ ?_) <;> intro ht11
  ·
   -- then
   refine CW.sr fun K12 hK12 => ?_
   refine WL.m rfl ?_
   refine WL.a rfl ?_
   refine WL.a rfl ?_
   refine WL.nil (hK12 _ _ ?_); try clear hK12
   refine CW.ret ⟨_, rfl, ?_⟩
   have hne : rPutE rs b ≠ 0 := by assumption
   exact ⟨_, _, rfl, fun _ => ⟨hT.err hb hsh hR.few hne, rfl⟩, fun h0 => absurd h0 hne, hE⟩
  refine CW.skip ?_
  refine hK8 _ _ ?_; try clear hK8
  refine CW.region ?_
  refine WL.m rfl ?_
  refine WL.v (Y.add rfl rfl o2_) ?_
  refine WL.a rfl ?_
  refine WL.nil ?_
  have he : rPutE rs b = 0 := Decidable.not_not.1 (by assumption)
  refine ⟨(rPutL rs b, x + 1), by show m - (x + 1) < m - x; omega, Fr.ok, by show x + 1 ≤ m; omega, ⟨u2, v2, hR2.ext hx4, ?_, ?_⟩, ?_, ?_, hE⟩
  ·
   intro k hk
   rcases hu2 k hk with h | h
   ·
    exact hu k h
   ·
    omega
  ·
   intro k hk
   rcases hv2 k hk with h | h
   ·
    exact hv k h
   ·
    omega
  ·
   show RTk (xs.take (x + 1)) _
   rw [take_succ hb]
   exact hT.step he
  ·
   show ∀ b ∈ xs.take (x + 1), _
   rw [take_succ hb]
   intro y hy
   rcases List.mem_append.1 hy with hy | hy
   ·
    exact hsh y hy
   ·
    simp at hy; subst hy; exact rPutE_short he
 refine CW.exit ?_
 refine hK3 _ _ ?_; try clear hK3
 refine CW.sr fun K13 hK13 => ?_
 refine WL.m rfl ?_
 refine WL.a rfl ?_
 refine WL.a rfl ?_
 refine WL.nil (hK13 _ _ ?_); try clear hK13
 refine CW.ret ⟨_, rfl, ?_⟩
 rw [List.take_of_length_le om_] at hT hsh
 exact ⟨_, _, rfl, fun hne => absurd rfl hne, fun _ => ⟨g9, rs, rfl, ⟨u, v, hR⟩, hT, hsh⟩, hE⟩
set_option maxRecDepth 20000 in
set_option maxHeartbeats 2000000 in
theorem rReach_any (u v : Value) (xs : List (List UInt8)) (hs : List Dig) (w : World) (hu : Sl w strC 1 u xs) (hv : Sl w digC 32 v hs) (hsh : hs.length * 32 ≤ 140737488355328) : Calls Tryz.prog 5 #[u, v] w (Ret fun r w' => ∃ p e ys, r = .tuple #[p, .int .i64 e] ∧ RcP xs hs ys e ∧ Own w' TStr 1 p (flatS ys) ∧ Ext w w') := by
 obtain ⟨A, m, c, rfl, hm, hmc, hcm, hux⟩ := id hv
 unfold maxLen at hcm
 refine calls_of_CW 93 [4, 5] [(0, u), (1, .slice A m c)] Tryz.func5 rfl rfl rfl (by simp) args2 ?_
 have hE : Ext w w := Chg.refl
 refine CW.sr fun K1 hK1 => ?_
 refine WL.a rfl ?_
 refine WL.a rfl ?_
 refine WL.nil (hK1 _ _ ?_); try clear hK1
 refine CW.sr fun K2 hK2 => ?_
 refine WL.m rfl ?_
 refine WL.call Tryz.func13 rfl rfl rfl (rTaken_any u xs _ hu) (by simp) ?_; rintro v21 w1 hR1
 obtain ⟨p, e, rfl, hbad, hgood, hx1⟩ := hR1
 have hz1 := hx1.size
 have hE := hE.thenExt hx1
 refine WL.m rfl ?_
 refine WL.v (Y.extract rfl rfl) ?_
 refine WL.v (Y.extract rfl rfl) ?_
 refine WL.a rfl ?_
 refine WL.a rfl ?_
 refine WL.nil (hK2 _ _ ?_); try clear hK2
 refine CW.seq fun K3 hK3 => ?_
 refine CW.sr fun K4 hK4 => ?_
 refine WL.m rfl ?_
 refine WL.v (Y.neq rfl rfl) ?_
 refine WL.nil (hK4 _ _ ?_); try clear hK4
 (first | refine cd_ rfl ?_ ?_ | refine ce_ rfl ?_ ?_ | refine cn_ rfl ?_ ?_ | refine cb_ rfl ?_ ?_) <;> intro ht5
 ·
  -- then
  refine CW.sr fun K6 hK6 => ?_
  refine WL.m rfl ?_
  refine WL.a rfl ?_
  refine WL.a rfl ?_
  refine WL.nil (hK6 _ _ ?_); try clear hK6
  refine CW.ret ⟨_, rfl, ?_⟩
  exact ⟨_, _, _, rfl, .inl ⟨(hbad (by assumption)).1, rfl⟩, Own.nil, hE⟩
 refine CW.skip ?_
 refine hK3 _ _ ?_; try clear hK3
 refine CW.sr fun K7 hK7 => ?_
 refine WL.a rfl ?_
 refine WL.nil (hK7 _ _ ?_); try clear hK7
 refine CW.seq fun K8 hK8 => ?_
 obtain ⟨g, rs, rfl, ⟨u1, v1, hRA⟩, ⟨l, hL, hH⟩, hxl⟩ := hgood (Decidable.not_not.1 (by assumption))
 have hlf : l.length ≤ 500 := by rw [hL.len]; exact hRA.few
 have hE0 := hE
 have hE : Ext w1 w1 := Chg.refl
 refine CW.region ?_
 refine WL.st (St.buildSlice0 Tryz.underlying23 sz0_apiDigest) de_ fun v27 w2 hR2 => ?_
 obtain ⟨g5, rfl, hg5, hO2, hx2⟩ := hR2
 have hz2 := hx2.size
 have hE := hE.thenExt hx2
 refine WL.m rfl ?_
 refine WL.st (St.append (news := flatD hs) Tryz.underlying23 Tryz.underlying23 ai_dig rfl rfl hO2 ((hv.ext (hE0.thenExt hE)).src digC_length) (one_flatDs hs) (by simp only [List.length_nil]; omega)) de_ fun v29 w3 hR3 => ?_
 obtain ⟨hO3, hc3, hf3⟩ := hR3
 have hz3 := hc3.size
 have hE := hE.step hc3 (fun k h => by simp [Value.ownBlock] at h; omega)
 refine WL.a rfl ?_
 refine WL.nil (hK8 _ _ ?_); try clear hK8
 refine CW.seq fun K9 hK9 => ?_
 refine CW.sr fun K10 hK10 => ?_
 refine WL.a rfl ?_
 refine WL.nil (hK10 _ _ ?_); try clear hK10
 refine CW.block ?_
 refine CW.loop (X := Value × Value × List Dig × List Dig × Nat) (fun x => [(6, .pointer (some ⟨g, 0, none⟩)), (8, x.1), (9, x.2.1), (10, .int .i64 (x.2.2.2.2 : Int))]) (fun x w0 => Own w0 TDg 32 x.1 (flatD x.2.2.1) ∧ Own w0 TDg 32 x.2.1 (flatD x.2.2.2.1) ∧ (∀ k, x.1.ownBlock = some k → w1.heap.size ≤ k ∧ x.2.1.ownBlock ≠ some k) ∧ (∀ k, x.2.1.ownBlock = some k → w1.heap.size ≤ k) ∧ x.2.2.2.2 ≤ x.2.2.2.1.length ∧ Met l hs x.2.2.1 (x.2.2.2.1.drop x.2.2.2.2) ∧ x.2.2.2.1.length ≤ hs.length + 8 * x.2.2.1.length ∧ Ext w1 w0) (fun x => (l.length - x.2.2.1.length) * 9 + (x.2.2.2.1.length - x.2.2.2.2)) (.slice none 0 0, v29, [], hs, 0) Fr.ok ⟨Own.nil, by simpa using hO3, (fun k h => by simp [Value.ownBlock] at h), (fun k hk => by rcases hf3 with h | h; (rw [h] at hk; simp [Value.ownBlock] at hk; omega); (have := h k hk; omega)), Nat.zero_le _, Met.begin hs, by simp, hE⟩ ?_
 intro x w4 hl4
 clear hO3 hO2 hE hf3 hc3
 obtain ⟨iv, tv, M, T, i⟩ := x
 dsimp only at hl4 ⊢
 obtain ⟨hI, hD, hif, htf, hi, hM, hTl, hE⟩ := hl4
 obtain ⟨A8, m8, c8, rfl⟩ := hI.lens
 obtain ⟨A9, m9, c9, rfl⟩ := hD.lens
 have hm8 := (Own.len digC_length de_ hI).1
 have hm9 := (Own.len digC_length de_ hD).1
 have hmf := hM.few hL.keys
 have hzE := hE.size
 have hIl := hI.lt
 have hDl := hD.lt
 refine CW.seq fun K11 hK11 => ?_
 refine CW.sr fun K12 hK12 => ?_
 refine WL.m rfl ?_
 refine WL.m rfl ?_
 refine WL.v (Y.len_slice Tryz.underlying23 rfl) ?_
 refine WL.v (Y.lss rfl rfl) ?_
 refine WL.nil (hK12 _ _ ?_); try clear hK12
 (first | refine cd_ rfl ?_ ?_ | refine ce_ rfl ?_ ?_ | refine cn_ rfl ?_ ?_ | refine cb_ rfl ?_ ?_) <;> intro ht13
 ·
  -- then
  refine CW.skip ?_
  refine hK11 _ _ ?_; try clear hK11
  refine CW.seq_to (X := Value × Value × List Dig × List Dig) (fun y => [(6, .pointer (some ⟨g, 0, none⟩)), (8, y.1), (9, y.2.1), (10, .int .i64 (i : Int))]) (fun y w0 => Own w0 TDg 32 y.1 (flatD y.2.2.1) ∧ Own w0 TDg 32 y.2.1 (flatD y.2.2.2) ∧ (∀ k, y.1.ownBlock = some k → w1.heap.size ≤ k ∧ y.2.1.ownBlock ≠ some k) ∧ (∀ k, y.2.1.ownBlock = some k → w1.heap.size ≤ k)∧ i + 1 ≤ y.2.2.2.length ∧ Met l hs y.2.2.1 (y.2.2.2.drop (i + 1)) ∧ y.2.2.2.length ≤ hs.length + 8 * y.2.2.1.length ∧ (l.length - y.2.2.1.length) * 9 + (y.2.2.2.length - (i + 1)) < (l.length - M.length) * 9 + (T.length - i) ∧ Ext w1 w0) ?_ ?_
  ·
   skip
   refine CW.block ?_
   refine CW.seq fun K15 hK15 => ?_
   refine CW.seq fun K16 hK16 => ?_
   obtain ⟨d, hd⟩ : ∃ d, T[i]? = some d := ⟨_, List.getElem?_eq_getElem om_⟩
   obtain ⟨a9, rfl, hmd⟩ := (hD.sl digC_length de_).at hd
   have hdr : T.drop i = d :: T.drop (i + 1) := by
    obtain ⟨h, rfl⟩ := List.getElem?_eq_some_iff.1 hd
    exact List.drop_eq_getElem_cons h
   rw [hdr] at hM
   refine CW.region ?_
   refine WL.m rfl ?_
   refine WL.m rfl ?_
   refine WL.m rfl ?_
   refine WL.v (Y.indexAddrN Tryz.underlying23 rfl rfl sz0_apiDigest om_) ?_
   refine WL.v (Y.load Tryz.underlying38 rfl hmd (sz_apiDigest _) rfl) ?_
   refine WL.call Tryz.func14 rfl rfl rfl (pIn_any _ M d _ (hI.sl digC_length de_)) (by simp) ?_; rintro v41 w5 hR5
   obtain ⟨rfl, hx5⟩ := hR5
   have hz5 := hx5.size
   have hE := hE.thenExt hx5
   have hI := hI.ext hx5
   have hD := hD.ext hx5
   have hmd := hmd.ext hx5
   refine WL.nil (hK16 _ _ ?_); try clear hK16
   (first | refine cd_ rfl ?_ ?_ | refine ce_ rfl ?_ ?_ | refine cn_ rfl ?_ ?_ | refine cb_ rfl ?_ ?_) <;> intro ht17
   ·
    -- then
    refine CW.exit ?_
    exact ⟨(.slice A8 m8 c8, .slice (some a9) m9 c9, M, T), Fr.ok, hI, hD, hif, htf, by show i + 1 ≤ T.length; omega, hM.skipQ (by assumption), hTl, by show (l.length - M.length) * 9 + (T.length - (i + 1)) < _; omega, hE⟩
   refine CW.skip ?_
   refine hK15 _ _ ?_; try clear hK15
   refine CW.sr fun K18 hK18 => ?_
   refine WL.m rfl ?_
   refine WL.m rfl ?_
   refine WL.m rfl ?_
   refine WL.v (Y.indexAddrN Tryz.underlying23 rfl rfl sz0_apiDigest om_) ?_
   refine WL.v (Y.load Tryz.underlying38 rfl hmd (sz_apiDigest _) rfl) ?_
   refine WL.call Tryz.func15 rfl rfl rfl (rGet_any g rs d _ ⟨_, _, hRA.ext hE⟩) (by simp) ?_; rintro v48 w6 hR6
   obtain ⟨rfl, hx6⟩ := hR6
   have hz6 := hx6.size
   have hE := hE.thenExt hx6
   have hI := hI.ext hx6
   have hD := hD.ext hx6
   have hmd := hmd.ext hx6
   refine WL.m rfl ?_
   refine WL.v (Y.extract rfl rfl) ?_
   refine WL.v (Y.extract rfl rfl) ?_
   refine WL.a rfl ?_
   refine WL.a rfl ?_
   refine WL.nil (hK18 _ _ ?_); try clear hK18
   refine CW.seq fun K19 hK19 => ?_
   refine CW.sr fun K20 hK20 => ?_
   refine WL.m rfl ?_
   refine WL.v (Y.neq rfl rfl) ?_
   refine WL.nil (hK20 _ _ ?_); try clear hK20
   (first | refine cd_ rfl ?_ ?_ | refine ce_ rfl ?_ ?_ | refine cn_ rfl ?_ ?_ | refine cb_ rfl ?_ ?_) <;> intro ht21
   ·
    -- then
    refine CW.sr fun K22 hK22 => ?_
    refine WL.a rfl ?_
    refine WL.a rfl ?_
    refine WL.nil (hK22 _ _ ?_); try clear hK22
    refine CW.ret ⟨_, rfl, ?_⟩
    have hg : getI l d ≠ 0 := by rw [hL.getI]; assumption
    exact ⟨_, _, _, rfl, rcP_bad hH hxl hlf (hM.rch d (.inr (by simp))) (okD_none hg), Own.nil, hE0.thenExt hE⟩
   refine CW.skip ?_
   refine hK19 _ _ ?_; try clear hK19
   refine CW.sr fun K23 hK23 => ?_
   refine WL.m rfl ?_
   refine WL.call Tryz.func16 rfl rfl rfl (rDecode_any (bs (rGetB rs d)) _ (by have := rGetB_le hRA.short d; rw [bs_size]; omega)) (by simp) ?_; rintro v55 w7 hR7
   rw [bs_toList, ← hL.getB] at hR7
   obtain ⟨pv, ov, rfl, hx7, hP, hOv, hpf, _⟩ := hR7
   obtain ⟨Ap, mp, cp, rfl, hpm, _⟩ := id hP
   obtain ⟨Ao, mo, co, rfl, _⟩ := hOv
   have hz7 := hx7.size
   have hE := hE.thenExt hx7
   have hI := hI.ext hx7
   have hD := hD.ext hx7
   have hmd := hmd.ext hx7
   refine WL.m rfl ?_
   refine WL.v (Y.extract rfl rfl) ?_
   refine WL.v (Y.extract rfl rfl) ?_
   refine as_apiCommit rfl (by simp) de_ fun g13 w8 hx8 hg13 hB13 => ?_
   have hlt13 := hB13.lt; have hz8 := hx8.size
   have hM13 := hB13.mem; have hz8 := hx8.size; have hE := hE.thenExt hx8
   refine WL.a rfl ?_
   refine WL.nil (hK23 _ _ ?_); try clear hK23
   refine CW.seq fun K24 hK24 => ?_
   refine CW.sr fun K25 hK25 => ?_
   refine WL.m rfl ?_
   refine WL.v (Y.neq rfl rfl) ?_
   refine WL.nil (hK25 _ _ ?_); try clear hK25
   (first | refine cd_ rfl ?_ ?_ | refine ce_ rfl ?_ ?_ | refine cn_ rfl ?_ ?_ | refine cb_ rfl ?_ ?_) <;> intro ht26
   ·
    -- then
    refine CW.sr fun K27 hK27 => ?_
    refine WL.a rfl ?_
    refine WL.a rfl ?_
    refine WL.nil (hK27 _ _ ?_); try clear hK27
    refine CW.ret ⟨_, rfl, ?_⟩
    exact ⟨_, _, _, rfl, rcP_bad hH hxl hlf (hM.rch d (.inr (by simp))) (okD_bad (by assumption)), Own.nil, hE0.thenExt hE⟩
   refine CW.skip ?_
   refine hK24 _ _ ?_; try clear hK24
   refine CW.sr fun K28 hK28 => ?_
   refine WL.m rfl ?_
   refine WL.m rfl ?_
   refine WL.m rfl ?_
   refine WL.v (Y.indexAddrN Tryz.underlying23 rfl rfl sz0_apiDigest om_) ?_
   refine WL.v (Y.load Tryz.underlying38 rfl (hmd.ext hx8) (sz_apiDigest _) rfl) ?_
   refine WL.st (St.buildSlice rfl (bs1_dig _)) de_ fun v65 w9 hR9 => ?_
   obtain ⟨g65, rfl, hg65, hB65, hx9⟩ := hR9
   have hz9 := hx9.size
   have hE := hE.thenExt hx9
   have hI := (hI.ext hx8).ext hx9
   have hD := (hD.ext hx8).ext hx9
   have hP := (hP.ext hx8).ext hx9
   have hB13 := hB13.ext hx9
   refine WL.st (St.append Tryz.underlying23 Tryz.underlying23 ai_dig rfl rfl hI (Src.one hB65 (digC_length _)) one_digC (by rw [flat_length digC_length]; omega)) de_ fun v66 w10 hR10 => ?_
   obtain ⟨hI10, hc10, hf10⟩ := hR10
   have hz10 := hc10.size
   have hE := hE.step hc10 (fun k h => (hif k h).1)
   have hD := hD.chg hc10 (fun k hk h => (hif k h).2 hk)
   have hB13 := hB13.chg hc10 (fun h => by have := hIl _ h; omega)
   have hP := hP.chg hc10 (fun k hk h => by have := hpf k hk; have := hIl _ h; omega)
   have hok : okD l d := okD_good (by rw [hL.getI]; assumption) (by assumption)
   have hpl := parD_few hok
   have hif2 : ∀ k, v66.ownBlock = some k → w1.heap.size ≤ k ∧ (Value.slice (some a9) m9 c9).ownBlock ≠ some k := by
    intro k hk
    rcases hf10 with h | h
    ·
     rw [h] at hk; exact hif k hk
    ·
     have := h k hk; exact ⟨by omega, fun h2 => by have := hDl k h2; omega⟩
   change (decC (getB l d)).parents.length ≤ 8 at hpl
   refine WL.a rfl ?_
   refine WL.nil (hK28 _ _ ?_); try clear hK28
   refine CW.region ?_
   refine WL.m rfl ?_
   refine WL.v (Y.fieldAddr fo_apiCommit0 rfl) ?_
   refine WL.v (Y.load1 Tryz.underlying23 rfl hB13.mem.com0 rfl) ?_
   refine WL.st (St.appendW Tryz.underlying23 Tryz.underlying23 ai_dig rfl rfl hD (hP.src digC_length) (one_flatDs _) de_ (by rw [flat_length digC_length]; omega)) de_ fun v70 w11 hR11 => ?_
   obtain ⟨hD11, hc11, hf11⟩ := hR11
   have hz11 := hc11.size
   have hE := hE.step hc11 (fun k h => htf k h)
   have hI11 := hI10.chg hc11 (fun k hk h => (hif2 k hk).2 h)
   have hI11l := hI10.lt
   refine WL.a rfl ?_
   refine WL.nil ?_
   refine ⟨(v66, v70, M ++ [d], T ++ parD l d), Fr.ok, by simpa [flatD] using hI11, by simpa [flatD, parD] using hD11, fun k hk => ⟨(hif2 k hk).1, fun h2 => ?_⟩, fun k hk => ?_, ?_, ?_, ?_, ?_, hE⟩
   ·
    rcases hf11 with h | h
    ·
     rw [h] at h2; exact (hif2 k hk).2 h2
    ·
     have := h k h2; have := hI11l k hk; omega
   ·
    rcases hf11 with h | h
    ·
     rw [h] at hk; exact htf k hk
    ·
     have := h k hk; omega
   ·
    show i + 1 ≤ (T ++ parD l d).length
    rw [List.length_append]; omega
   ·
    show Met l hs (M ++ [d]) ((T ++ parD l d).drop (i + 1))
    rw [List.drop_append_of_le_length om_]
    exact hM.stepQ (by assumption) hok
   ·
    show (T ++ parD l d).length ≤ hs.length + 8 * (M ++ [d]).length
    rw [List.length_append, List.length_append, List.length_singleton, parD]; omega
   ·
    have h3 := (hM.stepQ (by assumption) hok).few hL.keys
    rw [List.length_append, List.length_singleton] at h3
    show (l.length - (M ++ [d]).length) * 9 + ((T ++ parD l d).length - (i + 1)) < _
    rw [List.length_append, List.length_append, List.length_singleton, parD]; omega
  rintro u w12 hj12
  obtain ⟨iv2, tv2, M2, T2⟩ := u
  dsimp only at hj12 ⊢
  obtain ⟨hI, hD, hif, htf, hi2, hM, hTl, hlt, hE⟩ := hj12
  refine CW.region ?_
  refine WL.m rfl ?_
  refine WL.v (Y.add rfl rfl o2_) ?_
  refine WL.a rfl ?_
  refine WL.nil ?_
  exact ⟨(iv2, tv2, M2, T2, i + 1), hlt, Fr.ok, hI, hD, hif, htf, hi2, hM, hTl, hE⟩
 refine CW.exit ?_
 refine hK9 _ _ ?_; try clear hK9
 refine CW.sr fun K29 hK29 => ?_
 refine WL.m rfl ?_
 refine WL.call Tryz.func17 rfl rfl rfl (sorted_any _ M _ (hI.sl digC_length de_) om_) (by simp) ?_; rintro v72 w13 hR13
 obtain ⟨hO13, hf13, hx13⟩ := hR13
 have hz13 := hx13.size
 have hE := hE.thenExt hx13
 rw [List.drop_of_length_le om_] at hM
 have hS := hM.sorted
 have hSf := hS.few hL.keys
 generalize srtD M = S at hS hSf hO13
 obtain ⟨A7, m7, c7, rfl⟩ := hO13.lens
 have hm7 := (Own.len digC_length de_ hO13).1
 have hE1 := hE
 have hE : Ext w13 w13 := Chg.refl
 refine WL.a rfl ?_
 refine WL.nil (hK29 _ _ ?_); try clear hK29
 refine CW.sr fun K30 hK30 => ?_
 refine WL.a rfl ?_
 refine WL.nil (hK30 _ _ ?_); try clear hK30
 refine CW.seq fun K31 hK31 => ?_
 refine CW.sr fun K32 hK32 => ?_
 refine WL.a rfl ?_
 refine WL.nil (hK32 _ _ ?_); try clear hK32
 refine CW.block ?_
 refine CW.loop (X := Value × Nat) (fun x => [(6, .pointer (some ⟨g, 0, none⟩)), (8, .slice A7 m7 c7), (15, x.1), (16, .int .i64 (x.2 : Int))]) (fun x w0 => x.2 ≤ S.length ∧ Own w0 TStr 1 x.1 (flatS ((S.take x.2).map (getB l))) ∧ (∀ k, x.1.ownBlock = some k → w13.heap.size ≤ k) ∧ Ext w13 w0) (fun x => S.length - x.2) (.slice none 0 0, 0) Fr.ok ⟨Nat.zero_le _, by simpa [flatS] using Own.nil, (fun k h => by simp [Value.ownBlock] at h), hE⟩ ?_
 intro x w14 hl14
 clear hE
 obtain ⟨ov, i⟩ := x
 dsimp only at hl14 ⊢
 obtain ⟨hi, hO, hof, hE⟩ := hl14
 have hzE := hE.size
 have hol := hO.lt
 refine CW.seq fun K33 hK33 => ?_
 refine CW.sr fun K34 hK34 => ?_
 refine WL.m rfl ?_
 refine WL.m rfl ?_
 refine WL.v (Y.len_slice Tryz.underlying23 rfl) ?_
 refine WL.v (Y.lss rfl rfl) ?_
 refine WL.nil (hK34 _ _ ?_); try clear hK34
 (first | refine cd_ rfl ?_ ?_ | refine ce_ rfl ?_ ?_ | refine cn_ rfl ?_ ?_ | refine cb_ rfl ?_ ?_) <;> intro ht35
 ·
  -- then
  refine CW.skip ?_
  refine hK33 _ _ ?_; try clear hK33
  refine CW.seq fun K36 hK36 => ?_
  refine CW.block ?_
  refine CW.seq fun K37 hK37 => ?_
  obtain ⟨d, hd⟩ : ∃ d, S[i]? = some d := ⟨_, List.getElem?_eq_getElem om_⟩
  obtain ⟨a8, rfl, hmd⟩ := ((hO13.ext hE).sl digC_length de_).at hd
  refine CW.region ?_
  refine WL.m rfl ?_
  refine WL.m rfl ?_
  refine WL.m rfl ?_
  refine WL.v (Y.indexAddrN Tryz.underlying23 rfl rfl sz0_apiDigest om_) ?_
  refine WL.v (Y.load Tryz.underlying38 rfl hmd (sz_apiDigest _) rfl) ?_
  refine WL.call Tryz.func15 rfl rfl rfl (rGet_any g rs d _ ⟨_, _, hRA.ext (hE1.thenExt hE)⟩) (by simp) ?_; rintro v85 w15 hR15
  obtain ⟨rfl, hx15⟩ := hR15
  have hz15 := hx15.size
  have hE := hE.thenExt hx15
  have hO := hO.ext hx15
  rw [← hL.getB]
  refine WL.m rfl ?_
  refine WL.v (Y.extract rfl rfl) ?_
  refine WL.v (Y.extract rfl rfl) ?_
  refine WL.a rfl ?_
  refine WL.a rfl ?_
  refine WL.nil (hK37 _ _ ?_); try clear hK37
  refine CW.region ?_
  refine WL.m rfl ?_
  refine WL.m rfl ?_
  refine WL.st (St.buildSlice rfl (bs1_str _)) de_ fun v90 w16 hR16 => ?_
  obtain ⟨g90, rfl, hg90, hB90, hx16⟩ := hR16
  have hz16 := hx16.size
  have hE := hE.thenExt hx16
  have hO := hO.ext hx16
  refine WL.st (St.append Tryz.underlying22 Tryz.underlying22 ai_str rfl rfl hO (Src.one hB90 rfl) (one1 rfl) (by rw [flat_length strC_length, List.length_map, List.length_take]; omega)) de_ fun v91 w17 hR17 => ?_
  obtain ⟨hO17, hc17, hf17⟩ := hR17
  have hz17 := hc17.size
  have hE := hE.step hc17 (fun k h => hof k h)
  refine WL.a rfl ?_
  refine WL.nil (hK36 _ _ ?_); try clear hK36
  refine CW.region ?_
  refine WL.m rfl ?_
  refine WL.v (Y.add rfl rfl o2_) ?_
  refine WL.a rfl ?_
  refine WL.nil ?_
  refine ⟨(v91, i + 1), by show S.length - (i + 1) < S.length - i; omega, Fr.ok, by show i + 1 ≤ S.length; omega, ?_, fun k hk => ?_, hE⟩
  ·
   show Own _ TStr 1 v91 (flatS ((S.take (i + 1)).map (getB l)))
   rw [take_succ hd]
   simpa [flatS, strC] using hO17
  ·
   rcases hf17 with h | h
   ·
    rw [h] at hk; exact hof k hk
   ·
    have := h k hk; omega
 refine CW.exit ?_
 refine hK31 _ _ ?_; try clear hK31
 refine CW.sr fun K38 hK38 => ?_
 refine WL.m rfl ?_
 refine WL.a rfl ?_
 refine WL.a rfl ?_
 refine WL.nil (hK38 _ _ ?_); try clear hK38
 refine CW.ret ⟨_, rfl, ?_⟩
 rw [List.take_of_length_le om_] at hO
 exact ⟨_, _, _, rfl, rcP_good hH hxl hlf hS, hO, hE0.thenExt (hE1.thenExt hE)⟩
end Go.Proofs.YtfanmpbapabboaaGreatDoor
/- PackReaches, walked. No condition but the bounds of what is handed in. -/
namespace Go.Proofs.YtfanmpbapabboaaGreatDoor
open Go.RowKit Go.Fw Go.Pl Go.Sort
theorem packReaches_any (u v : Value) (xs : List (List UInt8)) (hs : List Dig) (w : World) (hu : Sl w strC 1 u xs) (hsx : ∀ x ∈ xs, x.length ≤ 140737488351232) (hv : Sl w digC 32 v hs) (hsh : hs.length * 32 ≤ 140737488355328) (hK : Mem w ⟨0, 0, none⟩ (wds keysL)) : Calls Tryz.prog 3 #[u, v] w (Ret (True_ w)) := by
 refine calls_of_CW 32 [4] [(0, u), (1, v)] Tryz.func3 rfl rfl rfl (by simp) args2 ?_
 have hE : Ext w w := Chg.refl
 refine CW.sr fun K1 hK1 => ?_
 refine WL.a rfl ?_
 refine WL.nil (hK1 _ _ ?_); try clear hK1
 refine CW.sr fun K2 hK2 => ?_
 refine WL.m rfl ?_
 refine WL.m rfl ?_
 refine WL.call Tryz.func4 rfl rfl rfl (reach_any u v xs hs _ hu hsx hv hsh hK) (by simp) ?_; rintro v12 w1 hR1
 obtain ⟨p, e, ys, rfl, hA, hO1, hx1⟩ := hR1
 have hz1 := hx1.size
 have hE := hE.thenExt hx1
 refine WL.m rfl ?_
 refine WL.v (Y.extract rfl rfl) ?_
 refine WL.v (Y.extract rfl rfl) ?_
 refine WL.a rfl ?_
 refine WL.a rfl ?_
 refine WL.nil (hK2 _ _ ?_); try clear hK2
 refine CW.sr fun K3 hK3 => ?_
 refine WL.m rfl ?_
 refine WL.m rfl ?_
 refine WL.call Tryz.func5 rfl rfl rfl (rReach_any u v xs hs _ (hu.ext hE) (hv.ext hE) hsh) (by simp) ?_; rintro v18 w2 hR2
 obtain ⟨q, f, zs, rfl, hB, hO2, hx2⟩ := hR2
 have hz2 := hx2.size
 have hE := hE.thenExt hx2
 have hO1 := hO1.ext hx2
 obtain ⟨rfl, rfl⟩ := rcP_one hA hB
 refine WL.m rfl ?_
 refine WL.v (Y.extract rfl rfl) ?_
 refine WL.v (Y.extract rfl rfl) ?_
 refine WL.a rfl ?_
 refine WL.a rfl ?_
 refine WL.nil (hK3 _ _ ?_); try clear hK3
 refine CW.sr fun K4 hK4 => ?_
 refine WL.m rfl ?_
 refine WL.m rfl ?_
 refine WL.call Tryz.func6 rfl rfl rfl (psame_any _ _ ys ys _ (hO1.sl strC_length de_) (hO2.sl strC_length de_)) (by simp) ?_; rintro v w3 ⟨rfl, hx3⟩; have hz3 := hx3.size; have hE := hE.thenExt hx3
 refine WL.m rfl ?_
 (first | refine WL.casesD (d := 24) rfl ?_ ?_ | refine WL.casesND (d := 24) rfl ?_ ?_ | refine WL.cases (d := 24) rfl ?_ ?_) <;> intro hg24
 ·
  -- t24 = T
  refine WL.g rfl rfl (Y.move rfl) ?_
  refine WL.g rfl rfl (Y.move rfl) ?_
  refine WL.g rfl rfl (Y.eql rfl rfl) ?_
  refine WL.v (Y.pick rfl rfl) ?_
  refine WL.m rfl ?_
  (first | refine WL.casesD (d := 29) rfl ?_ ?_ | refine WL.casesND (d := 29) rfl ?_ ?_ | refine WL.cases (d := 29) rfl ?_ ?_) <;> intro hg29
  ·
   -- t29 = T
   refine WL.gcall rfl rfl Tryz.func7 rfl rfl rfl (palive_any _ (hK.ext hE)) de_ ?_; rintro v30 w4 hR4
   obtain ⟨rfl, hx4⟩ := hR4
   have hz4 := hx4.size
   have hE := hE.thenExt hx4
   refine WL.v (Y.pick rfl rfl) ?_
   refine WL.a rfl ?_
   refine WL.nil (hK4 _ _ ?_); try clear hK4
   refine CW.ret ⟨_, rfl, ?_⟩
   exact ⟨rfl, hE⟩
  ·
   -- t29 = F
   refine WL.o rfl rfl ?_
   refine WL.v (Y.pick rfl rfl) ?_
   refine WL.a rfl ?_
   refine WL.nil (hK4 _ _ ?_); try clear hK4
   refine CW.ret ⟨_, rfl, ?_⟩
   exact absurd rfl hg29
 ·
  -- t24 = F
  refine WL.o rfl rfl ?_
  refine WL.o rfl rfl ?_
  refine WL.o rfl rfl ?_
  refine WL.v (Y.pick rfl rfl) ?_
  refine WL.m rfl ?_
  refine WL.o rfl rfl ?_
  refine WL.v (Y.pick rfl rfl) ?_
  refine WL.a rfl ?_
  refine WL.nil (hK4 _ _ ?_); try clear hK4
  refine CW.ret ⟨_, rfl, ?_⟩
  exact absurd rfl hg24
end Go.Proofs.YtfanmpbapabboaaGreatDoor
