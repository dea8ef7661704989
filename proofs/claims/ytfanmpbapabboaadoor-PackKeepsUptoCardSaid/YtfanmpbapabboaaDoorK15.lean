/- Parts of a proof: what its last text leans on. No condition. -/
import Derived.Deep.DeepAppendWide
import Derived.Laws.MakeOwn
import Derived.Test.YtfanmpbapabboaaDoorK03
import Derived.Test.YtfanmpbapabboaaDoorK04
import Derived.Test.YtfanmpbapabboaaDoorK07
import Derived.Test.YtfanmpbapabboaaDoorK08
import Derived.Test.YtfanmpbapabboaaDoorK14
set_option linter.unusedSimpArgs false
set_option linter.unusedVariables false
/- A store and the reference's store that hold the same: the plain law of StorePlays. No condition; no program. -/
namespace Go.Proofs.YtfanmpbapabboaaDoor
open Go.RowKit Go.Fw Go.Pl Go.Sort
def rval (rs : RL) (d : Dig) : Option (List UInt8) := (rAt rs d).map fun p => p.2.2
abbrev RKeys (rs : RL) : Prop := (rs.map Prod.fst).Nodup
theorem rval_iff {rs : RL} (h : RKeys rs) {d : Dig} {x : List UInt8} : rval rs d = some x ↔ (d, x) ∈ rs := by
 constructor
 ·
  intro hv
  obtain ⟨⟨j, e⟩, hp, rfl⟩ := Option.map_eq_some_iff.1 hv
  obtain ⟨_, hj, hk⟩ := mfind_some hp
  rw [← hk]
  exact List.mem_of_getElem? hj
 ·
  intro he
  cases hp : rAt rs d with
  | none => exact absurd rfl (mfind_none hp _ he)
  | some p =>
   obtain ⟨j, f⟩ := p
   obtain ⟨_, hj, hk⟩ := mfind_some hp
   rw [Nat.sub_zero] at hj
   obtain ⟨i, hi⟩ := List.mem_iff_getElem?.1 he
   have hil := (List.getElem?_eq_some_iff.1 hi).1
   have h1 : (rs.map Prod.fst)[i]? = some d := by simp [hi]
   have h2 : (rs.map Prod.fst)[j]? = some d := by simp [hj, hk]
   have := (List.getElem?_inj (by simpa using hil) h).1 (h1.trans h2.symm)
   subst this
   rw [hi] at hj; cases hj
   simp [rval, hp]
structure Like (l : List Ent) (rs : RL) : Prop where
 keys : Unlike l
 rkeys : RKeys rs
 val : ∀ d, valOf l d = rval rs d
theorem Like.nil : Like [] [] := ⟨List.nodup_nil, List.nodup_nil, fun d => rfl⟩
abbrev Ent.kb (e : Ent) : Dig × List UInt8 := (e.k, e.b)
theorem Like.perm {l : List Ent} {rs : RL} (h : Like l rs) : (l.map Ent.kb).Perm rs := by
 refine (List.perm_ext_iff_of_nodup (pairs_nodup h.keys) ?_).2 fun ⟨d, x⟩ => ?_
 ·
  have := h.rkeys
  unfold RKeys List.Nodup at this
  rw [List.pairwise_map] at this
  exact this.imp fun hne e => hne (congrArg Prod.fst e)
 ·
  have h1 := valOf_iff h.keys (d := d) (x := x)
  rw [h.val, rval_iff h.rkeys] at h1
  rw [h1]
  simp only [List.mem_map, Prod.mk.injEq]
theorem Like.of_perm {l : List Ent} {rs : RL} (hk : Unlike l) (hp : (l.map Ent.kb).Perm rs) : Like l rs := by
 have hr : RKeys rs := by
  have := (hp.map Prod.fst).nodup_iff.1 (by rw [List.map_map]; exact hk)
  exact this
 refine ⟨hk, hr, fun d => ?_⟩
 have hi : ∀ x, valOf l d = some x ↔ rval rs d = some x := fun x => by
  rw [valOf_iff hk, rval_iff hr, ← hp.mem_iff]
  simp only [List.mem_map, Prod.mk.injEq]
 cases ha : valOf l d with
 | some x => exact ((hi x).1 ha).symm
 | none =>
  cases hb : rval rs d with
  | none => rfl
  | some x => rw [(hi x).2 hb] at ha; cases ha
theorem Like.len {l : List Ent} {rs : RL} (h : Like l rs) : l.length = rs.length := by simpa using h.perm.length_eq
theorem Like.getB {l : List Ent} {rs : RL} (h : Like l rs) (d : Dig) : getB l d = rGetB rs d := by
 have hv := h.val d
 unfold valOf rval at hv
 unfold Go.Proofs.YtfanmpbapabboaaDoor.getB rGetB
 cases ha : at_ l d <;> cases hb : rAt rs d <;> simp [ha, hb] at hv ⊢
 exact hv
theorem Like.isSome {l : List Ent} {rs : RL} (h : Like l rs) (d : Dig) : (at_ l d).isSome = true ↔ 0 ≤ rFind rs d := by
 have hv := h.val d
 unfold valOf rval at hv
 unfold rFind
 cases ha : at_ l d <;> cases hb : rAt rs d <;> simp [ha, hb] at hv ⊢
theorem Like.putE {l : List Ent} {rs : RL} (h : Like l rs) (b : List UInt8) : putE l b = rPutE rs b := by
 unfold Go.Proofs.YtfanmpbapabboaaDoor.putE rPutE
 have h1 := h.isSome (shaD b)
 rw [h.getB, h.len]
 by_cases hs : (at_ l (shaD b)).isSome = true
 ·
  rw [if_pos hs, if_pos (h1.1 hs)]
 ·
  rw [if_neg hs, if_neg (fun x => hs (h1.2 x))]
theorem Like.put {l l' : List Ent} {rs : RL} {b : List UInt8} (h : Like l rs) (hk : Unlike l') (hP : PutL l b l') : Like l' (rPutL rs b) := by
 have h1 := h.isSome (shaD b)
 unfold PutL at hP
 rw [h.putE] at hP
 by_cases hs : (at_ l (shaD b)).isSome = true
 ·
  rw [if_neg (by rintro ⟨_, hn⟩; rw [hn] at hs; cases hs)] at hP
  subst hP
  rw [rPutL_same (.inr (h1.1 hs))]
  exact h
 ·
  have hn : at_ l (shaD b) = none := by simpa using hs
  by_cases he : rPutE rs b = 0
  ·
   rw [if_pos ⟨he, hn⟩] at hP
   obtain ⟨e, rfl, rfl', rfl''⟩ := hP
   rw [rPutL, if_pos ⟨he, fun x => hs (h1.2 x)⟩]
   refine Like.of_perm hk ?_
   rw [List.map_append]
   refine h.perm.append ?_
   simp [Ent.kb, rfl', rfl'']
  ·
   rw [if_neg (fun x => he x.1)] at hP
   subst hP
   rw [rPutL_same (.inl he)]
   exact h
theorem Like.copy {l l' : List Ent} {rs : RL} (h : Like l rs) (hk : Unlike l') (hp : (l'.map Ent.kvb).Perm (l.map Ent.kvb)) : Like l' rs := by
 refine Like.of_perm hk (List.Perm.trans ?_ h.perm)
 have := hp.map fun p => (p.1, p.2.2)
 simpa [List.map_map, Function.comp_def] using this
theorem kb_erase {l : List Ent} {d : Dig} (h : Unlike l) {p : Dig × List UInt8} : p ∈ (dropL l d).map Ent.kb ↔ p ∈ l.map Ent.kb ∧ p.1 ≠ d := by
 constructor
 ·
  intro hp
  obtain ⟨e, he, rfl⟩ := List.mem_map.1 hp
  refine ⟨List.mem_map.2 ⟨e, dropL_mem he, rfl⟩, fun hd => ?_⟩
  exact mfind_none (dropL_none (d := d) h) e he hd
 ·
  rintro ⟨hp, hd⟩
  obtain ⟨e, he, rfl⟩ := List.mem_map.1 hp
  refine List.mem_map.2 ⟨e, ?_, rfl⟩
  unfold dropL
  split
  ·
   rename_i q hq
   obtain ⟨j, f⟩ := q
   obtain ⟨_, hj, hk⟩ := mfind_some hq
   rw [Nat.sub_zero] at hj
   obtain ⟨i, hi⟩ := List.mem_iff_getElem?.1 he
   exact List.mem_eraseIdx_iff_getElem?.2 ⟨i, fun hij => hd (by subst hij; rw [hi] at hj; cases hj; exact hk), hi⟩
  ·
   exact he
theorem dropL_unlike {l : List Ent} {d : Dig} (h : Unlike l) : Unlike (dropL l d) := by
 unfold dropL
 split
 ·
  exact unlike_erase h
 ·
  exact h
theorem rDrop_is (rs : RL) (d : Dig) : rDropL rs d = match rAt rs d with | some p => rs.eraseIdx p.1 | none => rs := by
 unfold rDropL skipL rFind
 cases hp : rAt rs d with
 | none => rw [if_neg (by dsimp only; omega), List.take_length]
 | some p =>
  obtain ⟨_, hj, _⟩ := mfind_some hp
  rw [Nat.sub_zero] at hj
  have := (List.getElem?_eq_some_iff.1 hj).1
  dsimp only
  rw [if_pos om_, List.take_length, Int.toNat_natCast]
theorem rDrop_keys {rs : RL} {d : Dig} (h : RKeys rs) : RKeys (rDropL rs d) := by
 rw [rDrop_is]
 split
 ·
  exact List.Nodup.sublist ((List.eraseIdx_sublist _ _).map Prod.fst) h
 ·
  exact h
theorem rDrop_mem {rs : RL} {d : Dig} (h : RKeys rs) {p : Dig × List UInt8} : p ∈ rDropL rs d ↔ p ∈ rs ∧ p.1 ≠ d := by
 rw [rDrop_is]
 split
 ·
  rename_i q hq
  obtain ⟨j, f⟩ := q
  obtain ⟨_, hj, hk⟩ := mfind_some hq
  rw [Nat.sub_zero] at hj
  dsimp only
  rw [List.mem_eraseIdx_iff_getElem?]
  constructor
  ·
   rintro ⟨i, hne, hi⟩
   refine ⟨List.mem_of_getElem? hi, fun hd => hne ?_⟩
   have h1 : (rs.map Prod.fst)[i]? = some d := by simp [hi, hd]
   have h2 : (rs.map Prod.fst)[j]? = some d := by simp [hj, hk]
   exact (List.getElem?_inj (List.getElem?_eq_some_iff.1 h1).1 h).1 (h1.trans h2.symm)
  ·
   rintro ⟨hp, hd⟩
   obtain ⟨i, hi⟩ := List.mem_iff_getElem?.1 hp
   exact ⟨i, fun hij => hd (by subst hij; rw [hi] at hj; cases hj; exact hk), hi⟩
 ·
  rename_i hn
  exact ⟨fun hp => ⟨hp, mfind_none hn p hp⟩, fun hp => hp.1⟩
theorem Like.drop {l : List Ent} {rs : RL} (h : Like l rs) (d : Dig) : Like (dropL l d) (rDropL rs d) := by
 refine Like.of_perm (dropL_unlike h.keys) ((List.perm_ext_iff_of_nodup (pairs_nodup (dropL_unlike h.keys)) ?_).2 fun p => ?_)
 ·
  have := rDrop_keys (d := d) h.rkeys
  unfold RKeys List.Nodup at this
  rw [List.pairwise_map] at this
  exact this.imp fun hne e => hne (congrArg Prod.fst e)
 ·
  rw [kb_erase h.keys, rDrop_mem h.rkeys, h.perm.mem_iff]
end Go.Proofs.YtfanmpbapabboaaDoor
/- Both answers about what some heads need: the plain part of PackReaches and PackKeeps. No condition; no program run. -/
namespace Go.Proofs.YtfanmpbapabboaaDoor
open Go.RowKit Go.Fw Go.Pl Go.Sort
theorem one_flatDs (l : List Dig) : ∀ u ∈ flatD l, u.oneCell' = true := by
 intro u hu
 obtain ⟨c, hc, hu⟩ := List.mem_flatten.1 hu
 obtain ⟨d, _, rfl⟩ := List.mem_map.1 hc
 exact one_digC u hu
def RcP (xs : List (List UInt8)) (hs : List Dig) (ys : List (List UInt8)) (e : Int) : Prop :=
 (TkErr xs e ∧ ys = []) ∨ ∃ l, Holds l xs ∧ (∀ b ∈ xs, b.length ≤ 131072) ∧ l.length ≤ 500 ∧ ((e = 5 ∧ ys = [] ∧ ∃ d, Rch l hs d ∧ ¬ okD l d) ∨ ∃ S, e = 0 ∧ ReachOk l hs S ∧ ys = S.map (getB l))
theorem Rch.same {l k : List Ent} {hs : List Dig} (h : ∀ d, valOf k d = valOf l d) {d : Dig} (hr : Rch l hs d) : Rch k hs d := by
 induction hr with
 | head h1 => exact .head h1
 | par h1 h2 ih => exact .par ih (by rw [parD, getB_same (h _)]; exact h2)
theorem putL_ex {l : List Ent} (hk : Unlike l) (b : List UInt8) : ∃ l', PutL l b l' ∧ Unlike l' := by
 by_cases h : putE l b = 0 ∧ at_ l (shaD b) = none
 ·
  refine ⟨l ++ [⟨shaD b, .slice none 0 0, 0, b⟩], by rw [PutL, if_pos h]; exact ⟨_, rfl, rfl, rfl⟩, ?_⟩
  unfold Unlike
  rw [List.map_append]
  refine List.nodup_append.2 ⟨hk, by simp, fun a ha c hc => ?_⟩
  obtain ⟨e, he, rfl⟩ := List.mem_map.1 ha
  simp at hc
  subst hc
  exact fun heq => mfind_none h.2 e he heq
 ·
  exact ⟨l, by rw [PutL, if_neg h], hk⟩
def RTk (xs : List (List UInt8)) (rs : RL) : Prop := ∃ l, Like l rs ∧ Holds l xs
theorem RTk.nil : RTk [] [] := ⟨[], Like.nil, Holds.nil⟩
theorem RTk.step {xs : List (List UInt8)} {rs : RL} {b : List UInt8} (h : RTk xs rs) (he : rPutE rs b = 0) : RTk (xs ++ [b]) (rPutL rs b) := by
 obtain ⟨l, hL, hH⟩ := h
 obtain ⟨l', hP, hk⟩ := putL_ex hL.keys b
 exact ⟨l', hL.put hk hP, hH.put0 (by rw [hL.putE]; exact he) hP hk⟩
theorem Met.same {l : List Ent} {hs M D E : List Dig} (h : Met l hs M D) (hD : ∀ d, d ∈ D ↔ d ∈ E) : Met l hs M E where
 nodup := h.nodup
 ok := h.ok
 rch d hd := h.rch d (hd.imp id (hD d).2)
 hs d hd := (h.hs d hd).imp id (hD d).1
 clo d hd p hp := (h.clo d hd p hp).imp id (hD p).1
theorem Met.sorted {l : List Ent} {hs M : List Dig} (h : Met l hs M []) : ReachOk l hs (srtD M) where
 up := srt_up _ _ List.Pairwise.nil
 mem d := by
  rw [srtD, srt_mem, ← h.done]
  simp
 ok d hd := h.ok d (by rw [srtD, srt_mem] at hd; simpa using hd)
theorem rcP_bad {xs : List (List UInt8)} {hs : List Dig} {l : List Ent} {d : Dig} (hH : Holds l xs) (hb : ∀ b ∈ xs, b.length ≤ 131072) (hf : l.length ≤ 500) (hr : Rch l hs d) (hd : ¬ okD l d) : RcP xs hs [] 5 :=
 .inr ⟨l, hH, hb, hf, .inl ⟨rfl, rfl, d, hr, hd⟩⟩
theorem rcP_good {xs : List (List UInt8)} {hs S : List Dig} {l : List Ent} (hH : Holds l xs) (hb : ∀ b ∈ xs, b.length ≤ 131072) (hf : l.length ≤ 500) (hS : ReachOk l hs S) : RcP xs hs (S.map (getB l)) 0 :=
 .inr ⟨l, hH, hb, hf, .inr ⟨S, rfl, hS, rfl⟩⟩
end Go.Proofs.YtfanmpbapabboaaDoor
/- append where the list grows past 2^47 bytes, after the kit's wide law. No condition. -/
namespace Go.Fw
open Go.RowKit
theorem run_append_mine_slW {P : Program} {w : World} {t u ty e e' : TypeId} {i : TypeInfo} {z : Value} {k m : Nat} {v x : Value} {xs news : List Value}
  (ht : P.underlying t = some (.slice e)) (hud : P.underlying u = some (.slice e')) (hi : P.info? e = some i) (hz : i.zero = some z) (hsize : i.size = k) (hzs : z.cells.size = k) (hk : 0 < k) (hbp : 0 < i.bytes)
  (hown : Own w e k v xs) (hsrc : Src P w k x m news) (h1 : ∀ u ∈ news, u.oneCell' = true) (hbs : i.bytes ≤ 1048576) (hroom : (xs.length + m * k) * i.bytes ≤ 200000000000000 * k) :
  ∃ v' w', (Builtin.append_ #[t, u] ty #[v, x]).run P w = .ok v' w' ∧ Own w' e k v' (xs ++ news) ∧ Chg (fun g => v.ownBlock = some g) w w' ∧
   (v'.ownBlock = v.ownBlock ∨ ∀ g, v'.ownBlock = some g → w.heap.size ≤ g) := by
 subst hsize
 obtain ⟨hnl, hs⟩ := hsrc
 obtain ⟨A, n, c, rfl⟩ := hown.lens
 obtain ⟨hmem, hnone, hxl, hnc, hcm⟩ := hown.mem A n c rfl
 obtain ⟨_, hsv⟩ := Src.slice (P := P) (w := w) (k := i.size) (A := A) (m := n) (c := c) hxl hmem
 have hfit : (n + m) * i.bytes ≤ 200000000000000 := by
  have h2 : (xs.length + m * i.size) * i.bytes = ((n + m) * i.bytes) * i.size := by rw [hxl, ← Nat.add_mul, Nat.mul_assoc, Nat.mul_comm i.size, ← Nat.mul_assoc]
  rw [h2] at hroom
  exact Nat.le_of_mul_le_mul_right hroom hk
 have hmx : n + m ≤ 200000000000000 := Nat.le_trans (Nat.le_mul_of_pos_right _ hbp) hfit
 have hwide : ((n + m) + (n + m) / 4 + 192) * i.bytes ≤ 281474976710656 := by
  have h4 : (n + m) / 4 * 4 * i.bytes ≤ (n + m) * i.bytes := Nat.mul_le_mul_right _ (Nat.div_mul_le_self _ _)
  have h5 : (n + m) / 4 * 4 * i.bytes = 4 * ((n + m) / 4 * i.bytes) := by rw [Nat.mul_comm _ 4, Nat.mul_assoc]
  rw [Nat.add_mul, Nat.add_mul]
  omega
 by_cases hr : n + m ≤ c
 ·
  cases A with
  | none =>
   have h0 := hnone rfl
   subst h0
   rcases hown with ⟨h, rfl⟩ | ⟨g, n', cap, rest, fz, h, _⟩
   ·
    injection h with _ _ hc
    subst hc
    have hm0 : m = 0 := by omega
    subst hm0
    have : news = [] := List.eq_nil_of_length_eq_zero (by simpa using hnl)
    subst this
    obtain ⟨hl1, hf1⟩ := hs w rfl
    exact ⟨.slice none 0 0, w, by simp [Builtin.append_, run_underlying ht, run_underlying hud, sizeOf, typeInfo, hi, hl1, hf1], by simpa using Own.nil, Chg.refl, .inl rfl⟩
   ·
    cases h
  | some a =>
   rcases hown with ⟨h, _⟩ | ⟨g, n', cap, rest, fz, h, hh, hxl', hnc', hcm', hal, hfz⟩
   ·
    cases h
   ·
    injection h with h2 h3 h4
    injection h2 with h2
    subst h2; subst h3; subst h4
    obtain ⟨hl1, hf1⟩ := hs w rfl
    have hrest : rest.length = (c - n) * i.size := by
     rw [List.length_append, hxl, ] at hal
     rw [Nat.sub_mul]; omega
    have hle : news.length ≤ rest.length := by rw [hnl, hrest]; exact Nat.mul_le_mul_right _ om_
    have hst := storeCells_own (P := P) g (n * i.size) e fz news 0 (xs ++ rest).toArray w hh (by simp; omega) h1 (fun p hp => hfz p (by simp at hp; simp at hal; omega))
    have hadd : (⟨g, 0, none⟩ : Addr).add (n * i.size) = ⟨g, n * i.size, none⟩ := by unfold Addr.add; split <;> simp_all
    have heq : ((xs ++ rest).toArray.toList.take (n * i.size + 0) ++ news ++ (xs ++ rest).toArray.toList.drop (n * i.size + 0 + news.length)).toArray = (xs ++ news ++ rest.drop news.length).toArray := by
     congr 1
     rw [List.toList_toArray, Nat.add_zero, ← hxl, List.take_left, List.drop_append]
     simp [List.drop_of_length_le]
    rw [heq] at hst
    refine ⟨.slice (some ⟨g, 0, none⟩) (n + m) c, _, ?_, .inr ⟨g, n + m, c, rest.drop news.length, fz, rfl, setRow_heap w g _ _ e fz hh, ?_, hr, hcm', ?_, hfz⟩,
     ⟨rfl, rfl, rfl, by simp, fun b hb hn => setRow_other w g b _ (fun e => hn (by rw [e]; rfl)), Nat.le_refl _⟩, .inl rfl⟩
    ·
     simp [Builtin.append_, run_underlying ht, run_underlying hud, sizeOf, typeInfo, hi, hl1, hf1, hr, hadd, hst]
    ·
     rw [List.length_append, hxl, hnl, Nat.add_mul]
    ·
     rw [← hal]; simp; omega
 ·
  have hn : ¬ (n + m ≤ c) := hr
  have h63' : ¬ (9223372036854775807 < ((n : Int) + (m : Int))) := by omega
  have h48' : ¬ (281474976710656 < Builtin.nextslicecap (n + m) c * i.bytes) := by
   have := growslice_fits_wide (need := n + m) (old := c) (bytes := i.bytes) om_ hwide
   omega
  obtain ⟨hl1, _⟩ := hs w rfl
  obtain ⟨_, hf1⟩ := hs w.drew rfl
  obtain ⟨_, hf0⟩ := hsv w.drew rfl
  have hge := grownCap_ge w (n + m) c e
  have hcm2 : grownCap w (n + m) c e ≤ maxLen := grownCap_le_maxLen w (n + m) c e (by simp only [maxLen]; omega)
  refine ⟨.slice (some ⟨w.heap.size, 0, none⟩) (n + m) (grownCap w (n + m) c e),
   w.drew.alloc (.cells (xs ++ news ++ (Builtin.zeroCells z.cells (grownCap w (n + m) c e - (n + m))).toList).toArray e), ?_,
   .inr ⟨w.heap.size, n + m, grownCap w (n + m) c e, (Builtin.zeroCells z.cells (grownCap w (n + m) c e - (n + m))).toList, (0, 0), rfl, heap_alloc_new w.drew _, ?_, hge, hcm2, ?_, fun o _ => by simp⟩,
   Chg.drew.trans (Chg.alloc (S := fun _ => False) _) (fun _ _ f => f.elim), .inr (fun g hg => by simp [Value.ownBlock] at hg; omega)⟩
  ·
   simp [Builtin.append_, run_underlying ht, run_underlying hud, sizeOf, typeInfo, zeroValue, hi, hz, hl1, hn, h63', h48', Question.forced, hf0, hf1, newRow, grownCap]
   congr 2
   apply Array.ext'
   simp
  ·
   rw [List.length_append, hxl, hnl, Nat.add_mul]
  ·
   simp only [List.length_append, hxl, hnl, Array.length_toList, size_zeroCells, hzs, ← Nat.add_mul]
   congr 1
   omega
section
variable {P : Program} {n : NN} {Φ : Exit → Fr → World → Prop} {fr : Fr} {w : World} {ty : TypeId} {R : Value → World → Prop}
theorem St.appendW {s x : Operand} {v xv : Value} {t u e e' : TypeId} {k b m : Nat} {xs news : List Value}
  (ht : P.underlying t = some (.slice e)) (hud : P.underlying u = some (.slice e')) (hi : AppInfo P e k b) (hs : ev fr s = some v) (hx : ev fr x = some xv)
  (hown : Own w e k v xs) (hsrc : Src P w k xv m news) (h1 : ∀ u ∈ news, u.oneCell' = true) (hbs : b ≤ 1048576) (hroom : (xs.length + m * k) * b ≤ 200000000000000 * k) :
  St P n fr (.call { callee := .builtin .append, args := #[s, x], argTypes := #[t, u] }) ty w (fun v' w' => Own w' e k v' (xs ++ news) ∧ Chg (fun g => v.ownBlock = some g) w w' ∧
   (v'.ownBlock = v.ownBlock ∨ ∀ g, v'.ownBlock = some g → w.heap.size ≤ g)) := fun a o' ho hty ha => by
 obtain ⟨i, z, hi, hz, hk, hzs, rfl, h0, hb⟩ := hi
 obtain ⟨v', w', hr, hR⟩ := run_append_mine_slW (P := P) (w := w) (ty := o'.type) ht hud hi hz hk hzs h0 hb hown hsrc h1 hbs hroom
 exact ⟨v', w', by simp [execOp, ho, resolve, invoke, builtin, ha.ev hs, ha.ev hx, hr], hR⟩
end
end Go.Fw
/- Slices of ints, and of elements of several cells, of our own: made, read, written, cleared; method values. No condition. -/
namespace Go.Fw
open Go.RowKit
theorem range_cells {c : Array Value} : ∀ m : Nat, (List.range (m * c.size)).map (fun i => c[i % c.size]!) = (List.replicate m c.toList).flatten
 | 0 => by simp
 | m + 1 => by
  have ih := range_cells (c := c) m
  rw [Nat.succ_mul, List.range_add, List.map_append, ih, List.replicate_succ', List.flatten_append]
  congr 1
  rw [List.map_map]
  simp only [List.flatten_cons, List.flatten_nil, List.append_nil]
  apply List.ext_getElem?
  intro j
  rw [List.getElem?_map]
  by_cases hj : j < c.size
  ·
   rw [List.getElem?_range hj]
   have e : (m * c.size + j) % c.size = j := by rw [Nat.mul_comm, Nat.mul_add_mod]; exact Nat.mod_eq_of_lt hj
   simp only [Option.map_some, Function.comp_apply, e, Array.getElem?_toList]
   simp [hj]
  ·
   rw [List.getElem?_eq_none (by simpa using hj), List.getElem?_eq_none (by simpa using hj)]
   rfl
theorem madeCells_flat {c : Array Value} (m : Nat) : madeCells c (m * c.size) = ((List.replicate m c.toList).flatten).toArray := by
 unfold madeCells
 rw [← range_cells]
 apply Array.ext'
 simp [Array.toList_range]
theorem zeroCells_flat {c : Array Value} (m : Nat) : (Builtin.zeroCells c m).toList = (List.replicate m c.toList).flatten := by
 unfold Builtin.zeroCells
 rw [← range_cells]
 simp [Array.toList_range]
def MakeInfo (P : Program) (e : TypeId) (zs : List Value) (b : Nat) : Prop := ∃ i z, P.info? e = some i ∧ i.zero = some z ∧ z.cells = zs.toArray ∧ i.size = zs.length ∧ i.bytes = b
section
variable {P : Program} {n : NN} {Φ : Exit → Fr → World → Prop} {fr : Fr} {w : World} {ty : TypeId} {e : TypeId}
theorem St.makeK {t : TypeId} {x y : Operand} {k k' : IntKind} {m b : Nat} {zs : List Value} (hT : P.underlying t = some (.slice e)) (hi : MakeInfo P e zs b)
  (hx : ev fr x = some (.int k (m : Int))) (hy : ev fr y = some (.int k' (m : Int))) (hm : b * m ≤ 281474976710656) (hm2 : m ≤ 9223372036854775807) :
  St P n fr (.makeSlice t x y) ty w (fun v w' => ∃ g, v = .slice (some ⟨g, 0, none⟩) m m ∧ w.heap.size ≤ g ∧ Blk w' g e ((List.replicate m zs).flatten) ∧ Ext w w') := fun a o' ho hty ha => by
 obtain ⟨i, z, hi, hz, hzc, hs, rfl⟩ := hi
 have hr := run_make (P := P) w t e i z hT hi hz k k' (m : Int) (m : Int) om_ (Int.le_refl _) (by rw [← Int.natCast_mul]; omega) om_
 simp only [Int.toNat_natCast] at hr
 have hsz : i.size = z.cells.size := by rw [hs, hzc]; simp
 rw [hsz, madeCells_flat, hzc] at hr
 refine ⟨_, w.alloc (.cells ((List.replicate m zs).flatten).toArray e), ?_, w.heap.size, rfl, Nat.le_refl _, Blk.new w e _, Chg.alloc _⟩
 simp only [execOp, ho, ha.ev hx, ha.ev hy, Sem.run_bind]
 rw [hr]; rfl
theorem WL.storeC {ops : Array Oper} {rest : List Oper} {t : TypeId} {x y : Operand} {pos : String} {aft : Array Edge} {v : Value} {cs : List Value} {b i : Nat} {A : Addr}
  (hx : ev fr x = some (.pointer (some A))) (hA : A = (⟨b, 0, none⟩ : Addr).add (i * 1)) (hy : ev fr y = some v) (hv : v.cells = #[v]) (h1 : v.oneCell' = true) (hS : (P.info? t).map (·.size) = some 1) (hB : Blk w b e cs) (hi : i < cs.length)
  (h : ∀ w', Chg (· = b) w w' → Blk w' b e (cs.set i v) → WL P ops n Φ rest fr w') : WL P ops n Φ (⟨none, .store t x y, ty, pos, aft, none⟩ :: rest) fr w := by
 have e1 : cs = cs.take i ++ [cs[i]] ++ cs.drop (i + 1) := by
  conv => lhs; rw [← List.take_append_drop i cs, List.drop_eq_getElem_cons hi]
  simp
 have e2 : cs.set i v = cs.take i ++ [v] ++ cs.drop (i + 1) := by
  rw [List.set_eq_take_append_cons_drop, if_pos hi]; simp
 refine WL.store (g := b) (pre := cs.take i) (old := [cs[i]]) (post := cs.drop (i + 1)) (new := [v]) hx ?_ hy hv hS (e1 ▸ hB) rfl (one1 h1) fun w' hc hB' => ?_
 ·
  rw [hA, Nat.mul_one, add_zero', List.length_take, Nat.min_eq_left om_]
 ·
  exact h w' hc (e2 ▸ hB')
theorem flat_split {α : Type} {enc : α → List Value} {xs : List α} {i : Nat} {y : α} (x : α) (h : xs[i]? = some y) :
  (xs.map enc).flatten = ((xs.take i).map enc).flatten ++ enc y ++ ((xs.drop (i + 1)).map enc).flatten ∧ ((xs.set i x).map enc).flatten = ((xs.take i).map enc).flatten ++ enc x ++ ((xs.drop (i + 1)).map enc).flatten := by
 obtain ⟨hlt, hc⟩ := List.getElem?_eq_some_iff.1 h
 have e1 : xs = xs.take i ++ [y] ++ xs.drop (i + 1) := by
  conv => lhs; rw [← List.take_append_drop i xs, List.drop_eq_getElem_cons hlt, hc]
  simp
 have e2 : xs.set i x = xs.take i ++ [x] ++ xs.drop (i + 1) := by
  rw [List.set_eq_take_append_cons_drop, if_pos hlt]; simp
 constructor
 ·
  conv => lhs; rw [e1]
  simp
 ·
  rw [e2]; simp
theorem WL.storeK {α : Type} {enc : α → List Value} {k : Nat} (he : ∀ x, (enc x).length = k) (h1 : ∀ x, ∀ u ∈ enc x, u.oneCell' = true) {ops : Array Oper} {rest : List Oper} {t : TypeId} {x y : Operand} {pos : String} {aft : Array Edge} {v : α} {val : Value} {c : α} {xs : List α} {b i : Nat} {A : Addr}
  (hx : ev fr x = some (.pointer (some A))) (hA : A = (⟨b, 0, none⟩ : Addr).add (i * k)) (hy : ev fr y = some val) (hv : val.cells = (enc v).toArray) (hS : (P.info? t).map (·.size) = some k) (hB : Blk w b e ((xs.map enc).flatten)) (hi : xs[i]? = some c)
  (h : ∀ w', Chg (· = b) w w' → Blk w' b e (((xs.set i v).map enc).flatten) → WL P ops n Φ rest fr w') : WL P ops n Φ (⟨none, .store t x y, ty, pos, aft, none⟩ :: rest) fr w := by
 obtain ⟨e1, e2⟩ := flat_split (enc := enc) v hi
 have hlt := (List.getElem?_eq_some_iff.1 hi).1
 refine WL.store (g := b) (pre := ((xs.take i).map enc).flatten) (old := enc c) (post := ((xs.drop (i + 1)).map enc).flatten) (new := enc v) hx ?_ hy hv (by rw [hS, he]) (e1 ▸ hB) (by rw [he, he]) (h1 v) fun w' hc hB' => ?_
 ·
  rw [hA, add_zero', flat_length he, List.length_take, Nat.min_eq_left om_]
 ·
  exact h w' hc (e2 ▸ hB')
theorem Blk.kmem {α : Type} {enc : α → List Value} {k : Nat} (he : ∀ x, (enc x).length = k) {xs : List α} {b i : Nat} {x : α} (h : Blk w b e ((xs.map enc).flatten)) (hi : xs[i]? = some x) : Mem w ((⟨b, 0, none⟩ : Addr).add (i * k)) (enc x) :=
 h.mem.sub (i * k) fun j v hv => flat_at he xs i x hi j v hv
def intC (S : List Nat) : List Value := S.map fun (m : Nat) => Value.int .i64 (m : Int)
theorem intC_length (S : List Nat) : (intC S).length = S.length := by simp [intC]
theorem Blk.icell {S : List Nat} {b i m : Nat} (h : Blk w b e (intC S)) (hi : S[i]? = some m) : w.cell? ((⟨b, 0, none⟩ : Addr).add (i * 1)) = some (.int .i64 (m : Int)) := by
 rw [Nat.mul_one]
 exact h.mem.cell i (by rw [intC, List.getElem?_map, hi]; rfl)
theorem intC_set (S : List Nat) (i m : Nat) : (intC S).set i (.int .i64 (m : Int)) = intC (S.set i m) := by rw [intC, intC, List.map_set]
theorem intC_zeros (m : Nat) : (List.replicate m [Value.int .i64 0]).flatten = intC (List.replicate m 0) := by
 induction m with
 | zero => rfl
 | succ m ih => rw [List.replicate_succ, List.flatten_cons, ih]; rfl
theorem Su.clearI {t : TypeId} {x : Operand} {m c b : Nat} {S : List Nat} (hT : P.underlying t = some (.slice e)) (hz : ∀ w, (zeroValue e).run P w = .ok (.int .i64 0) w) (hx : ev fr x = some (.slice (some ⟨b, 0, none⟩) m c)) (hB : Blk w b e (intC S)) (hm : S.length = m) :
  Su P n fr (.call { callee := .builtin .clear, args := #[x], argTypes := #[t] }) ty w (fun w' => Blk w' b e (intC (List.replicate m 0)) ∧ Chg (· = b) w w') := fun a o' ho hty ha => by
 cases m with
 | zero =>
  have hS : S = [] := List.eq_nil_of_length_eq_zero hm
  refine ⟨w, .inr ⟨.tuple #[], ?_⟩, by rw [hS] at hB; exact hB, Chg.refl⟩
  simp [execOp, ho, resolve, invoke, builtin, ha.ev hx, Builtin.clear_, run_underlying hT]
 | succ m =>
  have hst := storeCells_own (P := P) b 0 e (0, 0) (intC (List.replicate (m + 1) 0)) 0 (intC S).toArray w hB (by simp [intC_length, hm]) (by intro u hu; unfold intC at hu; obtain ⟨b, _, rfl⟩ := List.mem_map.1 hu; rfl) (fun p _ h => by simp at h)
  have hz0 : (Builtin.zeroCells (Value.int .i64 0).cells (m + 1)).toList = intC (List.replicate (m + 1) 0) := by
   rw [zeroCells_flat, ← intC_zeros]; rfl
  have heq : ((intC S).toArray.toList.take (0 + 0) ++ intC (List.replicate (m + 1) 0) ++ (intC S).toArray.toList.drop (0 + 0 + (intC (List.replicate (m + 1) 0)).length)).toArray = (intC (List.replicate (m + 1) 0)).toArray := by
   simp [intC_length, hm, List.drop_of_length_le]
  rw [heq] at hst
  refine ⟨_, .inr ⟨.tuple #[], ?_⟩, setRow_heap w b _ _ e (0, 0) hB, ⟨rfl, rfl, rfl, by simp, fun k hk hn => setRow_other w b k _ (fun h => hn h), Nat.le_refl _⟩⟩
  simp [execOp, ho, resolve, invoke, builtin, ha.ev hx, Builtin.clear_, run_underlying hT, hz, hz0, hst]
theorem By.ltB {v : Value} {b : List UInt8} (h : By w v b) (h0 : b ≠ []) : ∀ k, v.ownBlock = some k → k < w.heap.size := by
 obtain ⟨A, m, c, rfl, hl, _, _, hA, _⟩ := h
 intro k hk
 have : 0 < b.length := List.length_pos_iff.2 h0
 obtain ⟨a, rfl, hm⟩ := hA om_
 have := hm.lt (by cases b with | nil => exact absurd rfl h0 | cons x r => simp [bytesC])
 simp [Value.ownBlock] at hk
 omega
theorem Y.makeFuncM {f : Fn} {xs : List Operand} {vs : List Value} (hx : evs fr xs = some vs) : Yw P n fr (.makeFunc f xs.toArray #[]) ty w (.func f vs.toArray #[]) w := fun b o' ho _ ha => by
 have := ha.evs hx
 simp [execOp, ho, Instr.makeFunc, this]
theorem WL.callM {ops : Array Oper} {rest : List Oper} {dst : Option Nat} {t : Nat} {f : FuncId} {args : List Operand} {tys : Array TypeId} {pos : String} {aft : Array Edge} {vs fst : List Value} {fn : Func}
  {R : Value → World → Prop} (ht : fr.get t = some (.func (.func f) fst.toArray #[]))
  (hf : P.funcs[f]? = some fn) (hb : fn.body.isNone = false) (hn : (fn.name == "runtime.NumGoroutine") = false)
  (he : evs fr args = some vs) (hC : Calls P f (fst ++ vs).toArray w (Ret R)) (hd : ∀ d, dst = some d → d < n.1)
  (h : ∀ v w', R v w' → WL P ops n Φ rest (match dst with | some d => (d, v) :: fr | none => fr) w') :
  WL P ops n Φ (⟨dst, .call { callee := .value (.tmp t), args := args.toArray, argTypes := tys }, ty, pos, aft, none⟩ :: rest) fr w := fun a ha =>
 wpList_plain rfl fun K hK => by
  have hrun : (execOp a.eval ⟨dst, .call { callee := .value (.tmp t), args := args.toArray, argTypes := tys }, ty, pos, aft, none⟩).run P w = .ok (.enter f (fst ++ vs).toArray) w := by
   have h1 := ha.evs he
   have h2 : a.eval (.tmp t) = .func (.func f) fst.toArray #[] := ha.ev (x := .tmp t) ht
   simp [execOp, resolve, invoke, Deferred.ofValue, h2, h1, run_callFunc hf hb hn]
  unfold Oper.wp
  rw [hrun]
  refine hC.mono fun e w' hr => ?_
  cases e with
  | returned v =>
   refine hK _ _ (h v w' hr _ ?_)
   cases dst with
   | none => exact ha
   | some d => exact ha.put (hd d rfl) v
  | panicked ch => exact hr.elim
  | outgrown => exact hr.elim
end
end Go.Fw
/- The plain law of a delta: what Make makes, what Apply reads, and that it leads back. No condition; no program. -/
namespace Go.Pl
open Go.Fw
def rowAt (base : List UInt8) (t : UInt8) (next : List Nat) (k : Nat) : Nat := if base[k]? = some t then next.getD (k + 1) 0 + 1 else 0
def rowOf (base : List UInt8) (t : UInt8) (next : List Nat) : List Nat := (List.range (base.length + 1)).map (rowAt base t next)
def rowsD (base target : List UInt8) : Nat → List Nat
 | 0 => List.replicate (base.length + 1) 0
 | m + 1 => rowOf base (target.getD (target.length - (m + 1)) 0) (rowsD base target m)
def bestD (base : List UInt8) (t : UInt8) (next : List Nat) : Nat → Nat × Nat
 | 0 => (0, 0)
 | m + 1 => if base[base.length - (m + 1)]? = some t ∧ (bestD base t next m).2 ≤ rowAt base t next (base.length - (m + 1)) then (base.length - (m + 1), rowAt base t next (base.length - (m + 1))) else bestD base t next m
def bestOf (base target : List UInt8) (i : Nat) : Nat × Nat := bestD base (target.getD i 0) (rowsD base target (target.length - 1 - i)) base.length
theorem rowOf_length (base : List UInt8) (t : UInt8) (next : List Nat) : (rowOf base t next).length = base.length + 1 := by simp [rowOf]
theorem rowsD_length (base target : List UInt8) : ∀ m, (rowsD base target m).length = base.length + 1
 | 0 => by simp [rowsD]
 | m + 1 => by rw [rowsD, rowOf_length]
theorem rowOf_at {base : List UInt8} {t : UInt8} {next : List Nat} {k : Nat} (h : k ≤ base.length) : (rowOf base t next).getD k 0 = rowAt base t next k := by
 rw [rowOf, List.getD_eq_getElem?_getD, List.getElem?_map, List.getElem?_range om_]; rfl
theorem rowsD_same (base target : List UInt8) : ∀ m, m ≤ target.length → ∀ k, k ≤ base.length → k + (rowsD base target m).getD k 0 ≤ base.length ∧ (rowsD base target m).getD k 0 ≤ m ∧
  (base.drop k).take ((rowsD base target m).getD k 0) = (target.drop (target.length - m)).take ((rowsD base target m).getD k 0)
 | 0, _, k, hk => by
  have h0 : (rowsD base target 0).getD k 0 = 0 := by rw [rowsD, List.getD_eq_getElem?_getD, List.getElem?_replicate]; split <;> rfl
  rw [h0]; exact ⟨by omega, Nat.le_refl _, by simp⟩
 | m + 1, hm, k, hk => by
  rw [rowsD, rowOf_at hk, rowAt]
  have hlt : target.length - (m + 1) < target.length := by omega
  have ht : target.getD (target.length - (m + 1)) 0 = target[target.length - (m + 1)] := by rw [List.getD_eq_getElem?_getD, List.getElem?_eq_getElem hlt]; rfl
  split
  ·
   rename_i hb
   obtain ⟨hkl, hbe⟩ := List.getElem?_eq_some_iff.1 hb
   obtain ⟨h1, h2, h3⟩ := rowsD_same base target m om_ (k + 1) om_
   refine ⟨by omega, by omega, ?_⟩
   rw [List.drop_eq_getElem_cons hkl, List.drop_eq_getElem_cons hlt, List.take_succ_cons, List.take_succ_cons, hbe, ht, show target.length - (m + 1) + 1 = target.length - m by omega, h3]
  ·
   exact ⟨by omega, by omega, by simp⟩
theorem bestD_same {base : List UInt8} {t : UInt8} {next : List Nat} (P : Nat → Nat → Prop) (h0 : P 0 0) (h : ∀ k, k < base.length → P k (rowAt base t next k)) : ∀ m, m ≤ base.length → P (bestD base t next m).1 (bestD base t next m).2
 | 0, _ => h0
 | m + 1, hm => by
  rw [bestD]
  split
  ·
   exact h _ om_
  ·
   exact bestD_same P h0 h m om_
theorem bestOf_same {base target : List UInt8} {i : Nat} (hi : i < target.length) : (bestOf base target i).1 + (bestOf base target i).2 ≤ base.length ∧ i + (bestOf base target i).2 ≤ target.length ∧
  (base.drop (bestOf base target i).1).take (bestOf base target i).2 = (target.drop i).take (bestOf base target i).2 := by
 have key : ∀ k, k < base.length → k + rowAt base (target.getD i 0) (rowsD base target (target.length - 1 - i)) k ≤ base.length ∧ i + rowAt base (target.getD i 0) (rowsD base target (target.length - 1 - i)) k ≤ target.length ∧
   (base.drop k).take (rowAt base (target.getD i 0) (rowsD base target (target.length - 1 - i)) k) = (target.drop i).take (rowAt base (target.getD i 0) (rowsD base target (target.length - 1 - i)) k) := by
  intro k hk
  have h := rowsD_same base target (target.length - 1 - i + 1) om_ k om_
  rw [rowsD, rowOf_at om_, show target.length - (target.length - 1 - i + 1) = i by omega] at h
  exact ⟨h.1, by omega, h.2.2⟩
 exact bestD_same (P := fun a r => a + r ≤ base.length ∧ i + r ≤ target.length ∧ (base.drop a).take r = (target.drop i).take r) ⟨by omega, by omega, by simp⟩ key base.length (Nat.le_refl _)
def rowPart (base : List UInt8) (t : UInt8) (next : List Nat) (q : Nat) : List Nat := (List.range (base.length + 1)).map fun j => if j < q then 0 else rowAt base t next j
theorem rowPart_length (base : List UInt8) (t : UInt8) (next : List Nat) (q : Nat) : (rowPart base t next q).length = base.length + 1 := by simp [rowPart]
theorem rowPart_at {base : List UInt8} {t : UInt8} {next : List Nat} {q j : Nat} (h : j ≤ base.length) : (rowPart base t next q)[j]? = some (if j < q then 0 else rowAt base t next j) := by
 rw [rowPart, List.getElem?_map, List.getElem?_range om_]; rfl
theorem rowPart_top (base : List UInt8) (t : UInt8) (next : List Nat) : rowPart base t next base.length = List.replicate (base.length + 1) 0 := by
 apply List.ext_getElem?
 intro j
 by_cases hj : j ≤ base.length
 ·
  have e : (if j < base.length then 0 else rowAt base t next j) = 0 := by
   split
   ·
    rfl
   ·
    have hn : base[j]? = none := List.getElem?_eq_none om_
    rw [rowAt, if_neg (by rw [hn]; simp)]
  rw [rowPart_at hj, e, List.getElem?_replicate, if_pos om_]
 ·
  rw [List.getElem?_eq_none (by rw [rowPart_length]; omega), List.getElem?_eq_none (by rw [List.length_replicate]; omega)]
theorem rowPart_zero (base : List UInt8) (t : UInt8) (next : List Nat) : rowPart base t next 0 = rowOf base t next := by
 unfold rowPart rowOf
 congr 1
theorem rowPart_same {base : List UInt8} {t : UInt8} {next : List Nat} {k : Nat} (h : rowAt base t next k = 0) : rowPart base t next k = rowPart base t next (k + 1) := by
 unfold rowPart
 congr 1
 funext j
 by_cases h1 : j < k
 ·
  rw [if_pos h1, if_pos om_]
 ·
  rw [if_neg h1]
  by_cases h2 : j = k
  ·
   subst h2; rw [if_pos om_, h]
  ·
   rw [if_neg om_]
theorem rowPart_set {base : List UInt8} {t : UInt8} {next : List Nat} {k : Nat} (hk : k ≤ base.length) : (rowPart base t next (k + 1)).set k (rowAt base t next k) = rowPart base t next k := by
 apply List.ext_getElem?
 intro j
 by_cases hj : j ≤ base.length
 ·
  rw [List.getElem?_set, rowPart_at hj, rowPart_at hj, rowPart_length]
  by_cases h2 : k = j
  ·
   subst h2; rw [if_pos rfl, if_pos om_, if_neg om_]
  ·
   rw [if_neg h2]
   by_cases h1 : j < k
   ·
    rw [if_pos om_, if_pos h1]
   ·
    rw [if_neg om_, if_neg h1]
 ·
  rw [List.getElem?_eq_none (by rw [List.length_set, rowPart_length]; omega), List.getElem?_eq_none (by rw [rowPart_length]; omega)]
theorem bestD_yes {base : List UInt8} {t : UInt8} {next : List Nat} {k : Nat} (hk : k < base.length) (h : base[k]? = some t) (h2 : (bestD base t next (base.length - (k + 1))).2 ≤ rowAt base t next k) : bestD base t next (base.length - k) = (k, rowAt base t next k) := by
 obtain ⟨m, hm⟩ : ∃ m, base.length - k = m + 1 := ⟨base.length - k - 1, by omega⟩
 have e1 : base.length - (k + 1) = m := by omega
 have e2 : base.length - (m + 1) = k := by omega
 rw [e1] at h2
 rw [hm, bestD, e2, if_pos ⟨h, h2⟩]
theorem bestD_no {base : List UInt8} {t : UInt8} {next : List Nat} {k : Nat} (hk : k < base.length) (h : ¬ (base[k]? = some t ∧ (bestD base t next (base.length - (k + 1))).2 ≤ rowAt base t next k)) : bestD base t next (base.length - k) = bestD base t next (base.length - (k + 1)) := by
 obtain ⟨m, hm⟩ : ∃ m, base.length - k = m + 1 := ⟨base.length - k - 1, by omega⟩
 have e1 : base.length - (k + 1) = m := by omega
 have e2 : base.length - (m + 1) = k := by omega
 rw [e1] at h ⊢
 rw [hm, bestD, e2, if_neg h]
theorem rowAt_yes {base : List UInt8} {t : UInt8} {next : List Nat} {k m : Nat} (h : base[k]? = some t) (hn : next[k + 1]? = some m) : rowAt base t next k = m + 1 := by
 rw [rowAt, if_pos h, List.getD_eq_getElem?_getD, hn]; rfl
theorem rowAt_no {base : List UInt8} {t : UInt8} {next : List Nat} {k : Nat} (h : base[k]? ≠ some t) : rowAt base t next k = 0 := by rw [rowAt, if_neg h]
theorem rowsD_le (base target : List UInt8) {m k v : Nat} (hm : m ≤ target.length) (h : (rowsD base target m)[k]? = some v) : v ≤ base.length := by
 have hk := (List.getElem?_eq_some_iff.1 h).1
 rw [rowsD_length] at hk
 have := (rowsD_same base target m hm k om_).1
 rw [List.getD_eq_getElem?_getD, h] at this
 simp at this
 omega
def ownB (rest : List UInt8) : List UInt8 := if rest = [] then [] else vi (2 * rest.length) ++ rest
def mkS (base target : List UInt8) : Nat → Nat → List UInt8 → List UInt8
 | 0, _, rest => ownB rest
 | f + 1, i, rest => if target.length ≤ i then ownB rest else if (bestOf base target i).2 < 8 then mkS base target f (i + 1) (rest ++ [target.getD i 0])
  else ownB rest ++ vi (2 * (bestOf base target i).2 + 1) ++ vi (bestOf base target i).1 ++ mkS base target f (i + (bestOf base target i).2) []
theorem mkS_end {base target : List UInt8} {f i : Nat} {rest : List UInt8} (h : target.length ≤ i) : mkS base target f i rest = ownB rest := by
 cases f with
 | zero => rfl
 | succ f => rw [mkS, if_pos h]
def mkB (base target : List UInt8) : List UInt8 := vi base.length ++ vi target.length ++ mkS base target target.length 0 []
theorem ownB_len (rest : List UInt8) (h : rest.length ≤ 4096) : (ownB rest).length ≤ rest.length + 9 := by
 unfold ownB
 split
 ·
  simp
 ·
  have := vi_len9 (n := 2 * rest.length) om_
  rw [List.length_append]; omega
theorem mkS_len {base target : List UInt8} (hb : base.length ≤ 4096) (ht : target.length ≤ 4096) : ∀ f i rest, rest.length + f ≤ 4096 → i ≤ target.length → (mkS base target f i rest).length ≤ rest.length + 9 + f * 28
 | 0, i, rest, h, _ => by have := ownB_len rest om_; rw [mkS]; omega
 | f + 1, i, rest, h, hi => by
  have h0 := ownB_len rest om_
  rw [mkS]
  split
  ·
   omega
  split
  ·
   have := mkS_len hb ht f (i + 1) (rest ++ [target.getD i 0]) (by simp; omega) om_
   rw [List.length_append, List.length_singleton] at this
   omega
  ·
   rename_i hlt _
   obtain ⟨h1, h2, _⟩ := bestOf_same (base := base) (target := target) (i := i) om_
   have h3 := vi_len9 (n := 2 * (bestOf base target i).2 + 1) om_
   have h4 := vi_len9 (n := (bestOf base target i).1) om_
   have := mkS_len hb ht f (i + (bestOf base target i).2) [] (by simp; omega) h2
   rw [List.length_nil] at this
   simp only [List.length_append]
   omega
theorem mkB_len {base target : List UInt8} (hb : base.length ≤ 4096) (ht : target.length ≤ 4096) : (mkB base target).length ≤ 120000 := by
 have h1 := vi_len9 (n := base.length) om_
 have h2 := vi_len9 (n := target.length) om_
 have h3 := mkS_len hb ht target.length 0 [] (by simp; omega) om_
 simp only [List.length_nil] at h3
 simp only [mkB, List.length_append]
 omega
def apL (base d : List UInt8) (size : Nat) : Nat → Nat → List UInt8 → Nat × Int × List UInt8
 | 0, at_, out => (at_, 0, out)
 | f + 1, at_, out => if size ≤ out.length then (at_, 0, out) else match gnum d at_ with
  | .error e => (0, e, out)
  | .ok (m, a) => if m / 2 = 0 ∨ size - out.length < m / 2 then (a, 7, out) else
   if m % 2 = 0 then (if d.length - a < m / 2 then (a, 8, out) else apL base d size f (a + m / 2) (out ++ (d.drop a).take (m / 2))) else
   match gnum d a with
   | .error e => (0, e, out)
   | .ok (k, a2) => if base.length < k ∨ base.length - k < m / 2 then (a2, 9, out) else apL base d size f a2 (out ++ (base.drop k).take (m / 2))
def apEnd (d : List UInt8) (p : Nat × Int × List UInt8) : List UInt8 × Int := if p.2.1 ≠ 0 then ([], p.2.1) else if p.1 ≠ d.length then ([], 7) else (p.2.2, 0)
def apB (base d : List UInt8) : List UInt8 × Int := if 4096 < base.length then ([], 3) else match gnum d 0 with
 | .error e => ([], e)
 | .ok (n, a) => if n ≠ base.length then ([], 1) else match gnum d a with
  | .error e => ([], e)
  | .ok (size, a2) => if 4096 < size then ([], 3) else apEnd d (apL base d size (size + 1) a2 [])
theorem apL_done {base d out : List UInt8} {size f at_ : Nat} (h : size ≤ out.length) : apL base d size f at_ out = (at_, 0, out) := by
 cases f with
 | zero => rfl
 | succ f => rw [apL, if_pos h]
theorem apL_own {base pre rest post out : List UInt8} {size f : Nat} (h0 : rest ≠ []) (hl : out.length + rest.length ≤ size) (hs : rest.length ≤ 4096) :
  apL base (pre ++ (ownB rest ++ post)) size (f + 1) pre.length out = apL base (pre ++ (ownB rest ++ post)) size f (pre ++ ownB rest).length (out ++ rest) := by
 have hp : 0 < rest.length := List.length_pos_iff.2 h0
 have e : ownB rest = vi (2 * rest.length) ++ rest := if_neg h0
 have hg := (rds_num (n := 2 * rest.length) om_).1 pre (rest ++ post)
 rw [e, List.append_assoc, apL, if_neg om_, hg]
 simp only []
 rw [show 2 * rest.length / 2 = rest.length by omega, if_neg om_, if_pos om_, if_neg (by simp only [List.length_append]; omega)]
 congr 1
 ·
  simp only [List.length_append]; omega
 ·
  congr 1
  rw [← List.append_assoc, List.drop_left' (by simp), List.take_append_of_le_length (Nat.le_refl _), List.take_of_length_le (Nat.le_refl _)]
theorem apL_copy {base pre post out : List UInt8} {size f a r : Nat} (h0 : 0 < r) (hl : out.length + r ≤ size) (ha : a + r ≤ base.length) (hs : base.length ≤ 4096) :
  apL base (pre ++ (vi (2 * r + 1) ++ (vi a ++ post))) size (f + 1) pre.length out = apL base (pre ++ (vi (2 * r + 1) ++ (vi a ++ post))) size f (pre ++ (vi (2 * r + 1) ++ vi a)).length (out ++ (base.drop a).take r) := by
 have hg := (rds_num (n := 2 * r + 1) om_).1 pre (vi a ++ post)
 have hg2 := (rds_num (n := a) om_).1 (pre ++ vi (2 * r + 1)) post
 rw [apL, if_neg om_, hg]
 simp only []
 rw [show (2 * r + 1) / 2 = r by omega, if_neg om_, if_neg om_]
 rw [List.append_assoc, List.length_append] at hg2
 rw [hg2]
 simp only []
 rw [if_neg om_]
 congr 1
 simp only [List.length_append]; omega
theorem apL_mk {base target : List UInt8} (hb : base.length ≤ 4096) (ht : target.length ≤ 4096) : ∀ (f i : Nat) (rest pre out : List UInt8) (g : Nat), target.length ≤ i + f → i ≤ target.length → out ++ rest = target.take i → target.length < out.length + g →
  apL base (pre ++ mkS base target f i rest) target.length g pre.length out = ((pre ++ mkS base target f i rest).length, 0, target) := by
 have last : ∀ (rest pre out : List UInt8) (g : Nat), out ++ rest = target → target.length < out.length + g → apL base (pre ++ ownB rest) target.length g pre.length out = ((pre ++ ownB rest).length, 0, target) := by
  intro rest pre out g he hg
  have hlen : out.length + rest.length = target.length := by rw [← he, List.length_append]
  by_cases hr : rest = []
  ·
   subst hr
   rw [List.append_nil] at he
   subst he
   rw [show ownB [] = [] from rfl, List.append_nil, apL_done (Nat.le_refl _)]
  ·
   obtain ⟨g, rfl⟩ : ∃ g', g = g' + 1 := ⟨g - 1, by have := List.length_pos_iff.2 hr; omega⟩
   have := apL_own (base := base) (pre := pre) (post := []) (out := out) (size := target.length) (f := g) hr om_ om_
   rw [List.append_nil] at this
   rw [this, apL_done (by rw [he]; exact Nat.le_refl _), he]
 intro f
 induction f with
 | zero =>
  intro i rest pre out g hf hi he hg
  have : i = target.length := by omega
  subst this
  rw [List.take_of_length_le (Nat.le_refl _)] at he
  exact last rest pre out g he hg
 | succ f ih =>
  intro i rest pre out g hf hi he hg
  by_cases hT : target.length ≤ i
  ·
   have : i = target.length := by omega
   subst this
   rw [List.take_of_length_le (Nat.le_refl _)] at he
   rw [mkS, if_pos hT]
   exact last rest pre out g he hg
  ·
   have hlt : i < target.length := by omega
   have hgd : target.getD i 0 = target[i] := by rw [List.getD_eq_getElem?_getD, List.getElem?_eq_getElem hlt]; rfl
   rw [mkS, if_neg hT]
   by_cases h8 : (bestOf base target i).2 < 8
   ·
    rw [if_pos h8]
    refine ih (i + 1) (rest ++ [target.getD i 0]) pre out g om_ om_ ?_ hg
    rw [← List.append_assoc, he, hgd, take_succ (List.getElem?_eq_getElem hlt)]
   ·
    rw [if_neg h8]
    obtain ⟨h1, h2, h3⟩ := bestOf_same (base := base) hlt
    generalize (bestOf base target i).1 = a at *
    generalize (bestOf base target i).2 = r at *
    have hlen : out.length + rest.length = i := by rw [← List.length_append, he, List.length_take]; omega
    have hnext : out ++ rest ++ (base.drop a).take r = target.take (i + r) := by rw [he, h3, ← List.take_add]
    have hown : ∃ g', target.length < (out ++ rest).length + (g' + 1) ∧ apL base (pre ++ (ownB rest ++ (vi (2 * r + 1) ++ (vi a ++ mkS base target f (i + r) [])))) target.length g pre.length out
      = apL base (pre ++ (ownB rest ++ (vi (2 * r + 1) ++ (vi a ++ mkS base target f (i + r) [])))) target.length (g' + 1) (pre ++ ownB rest).length (out ++ rest) := by
     by_cases hr : rest = []
     ·
      subst hr
      refine ⟨g - 1, by simp only [List.append_nil]; omega, ?_⟩
      rw [show ownB [] = [] from rfl, List.append_nil, List.append_nil, show g - 1 + 1 = g by omega]
     ·
      have hrl := List.length_pos_iff.2 hr
      refine ⟨g - 2, by rw [List.length_append]; omega, ?_⟩
      have := apL_own (base := base) (pre := pre) (rest := rest) (post := vi (2 * r + 1) ++ (vi a ++ mkS base target f (i + r) [])) (out := out) (size := target.length) (f := g - 1) hr om_ om_
      rw [show g - 1 + 1 = g by omega] at this
      rw [this, show g - 2 + 1 = g - 1 by omega]
    obtain ⟨g', hg', hown⟩ := hown
    simp only [List.append_assoc] at hown ⊢
    rw [hown]
    have hc := apL_copy (base := base) (pre := pre ++ ownB rest) (post := mkS base target f (i + r) []) (out := out ++ rest) (size := target.length) (f := g') (a := a) (r := r) om_ (by rw [List.length_append]; omega) h1 hb
    simp only [List.append_assoc] at hc
    rw [hc]
    have := ih (i + r) [] (pre ++ (ownB rest ++ (vi (2 * r + 1) ++ vi a))) (out ++ (rest ++ (base.drop a).take r)) g' om_ h2 (by rw [List.append_nil, ← List.append_assoc]; exact hnext) (by rw [← List.append_assoc, hnext, List.length_take]; rw [List.length_append] at hg'; omega)
    simp only [List.append_assoc] at this
    exact this
theorem apB_mk {base target : List UInt8} (hb : base.length ≤ 4096) (ht : target.length ≤ 4096) : apB base (mkB base target) = (target, 0) := by
 have hg := (rds_num (n := base.length) om_).1 [] (vi target.length ++ mkS base target target.length 0 [])
 have hg2 := (rds_num (n := target.length) om_).1 (vi base.length) (mkS base target target.length 0 [])
 have h3 := apL_mk hb ht target.length 0 [] (vi base.length ++ vi target.length) [] (target.length + 1) om_ om_ (by simp) (by simp)
 simp only [List.nil_append, List.length_nil, Nat.zero_add, List.append_assoc] at hg hg2 h3
 unfold apB mkB
 simp only [List.append_assoc]
 rw [if_neg om_, hg]
 simp only []
 rw [if_neg (by simp), hg2]
 simp only []
 rw [if_neg om_]
 rw [List.length_append] at h3
 rw [h3]
 unfold apEnd
 simp
def refE (e : Int) (b : Bool) (x : Int) : Int := if e = 0 ∧ b = true then x else e
theorem refE_ne {e x : Int} {b : Bool} (h : e ≠ 0) : refE e b x = e := if_neg fun y => h y.1
theorem refE_yes {x : Int} : refE 0 true x = x := if_pos ⟨rfl, rfl⟩
theorem refE_no {e x : Int} : refE e false x = e := if_neg fun y => by cases y.2
def NumR (d : List UInt8) (at_ : Nat) (e : Int) (n a : Nat) (e1 : Int) : Prop := (e = 0 ∧ e1 = 0 ∧ gnum d at_ = .ok (n, a)) ∨ (e = 0 ∧ e1 ≠ 0 ∧ gnum d at_ = .error e1 ∧ n = 0 ∧ a = 0) ∨ (e ≠ 0 ∧ e1 = e ∧ n = 0 ∧ a = at_)
theorem NumR.le {d : List UInt8} {at_ n a : Nat} {e e1 : Int} (h : NumR d at_ e n a e1) (ha : at_ ≤ d.length) : a ≤ d.length ∧ n < 9223372036854775808 := by
 rcases h with ⟨_, _, h⟩ | ⟨_, _, _, h1, h2⟩ | ⟨_, _, h1, h2⟩
 ·
  exact ⟨(gnum_len h ha).2, (snd_num _ _ _ _ ha h).2.2.2⟩
 ·
  omega
 ·
  omega
section
variable {base d out : List UInt8} {size f at_ m a k a2 : Nat} {e : Int}
theorem apEnd_err {n : Nat} {o : List UInt8} (h : e ≠ 0) : apEnd d (n, e, o) = ([], e) := by unfold apEnd; rw [if_pos h]
theorem apE_num (hl : out.length < size) (h : gnum d at_ = .error e) : apEnd d (apL base d size (f + 1) at_ out) = ([], e) := by
 rw [apL, if_neg om_, h]; exact apEnd_err (gnum_err h)
theorem apE_bad (hl : out.length < size) (h : gnum d at_ = .ok (m, a)) (hb : m / 2 = 0 ∨ size - out.length < m / 2) : apEnd d (apL base d size (f + 1) at_ out) = ([], 7) := by
 rw [apL, if_neg om_, h]; simp only []; rw [if_pos hb]; exact apEnd_err de_
theorem apE_end (hl : out.length < size) (h : gnum d at_ = .ok (m, a)) (hb : ¬ (m / 2 = 0 ∨ size - out.length < m / 2)) (h2 : m % 2 = 0) (h3 : d.length - a < m / 2) : apEnd d (apL base d size (f + 1) at_ out) = ([], 8) := by
 rw [apL, if_neg om_, h]; simp only []; rw [if_neg hb, if_pos h2, if_pos h3]; exact apEnd_err de_
theorem ap_own (hl : out.length < size) (h : gnum d at_ = .ok (m, a)) (hb : ¬ (m / 2 = 0 ∨ size - out.length < m / 2)) (h2 : m % 2 = 0) (h3 : ¬ d.length - a < m / 2) : apL base d size (f + 1) at_ out = apL base d size f (a + m / 2) (out ++ (d.drop a).take (m / 2)) := by
 rw [apL, if_neg om_, h]; simp only []; rw [if_neg hb, if_pos h2, if_neg h3]
theorem apE_num2 (hl : out.length < size) (h : gnum d at_ = .ok (m, a)) (hb : ¬ (m / 2 = 0 ∨ size - out.length < m / 2)) (h2 : ¬ m % 2 = 0) (h3 : gnum d a = .error e) : apEnd d (apL base d size (f + 1) at_ out) = ([], e) := by
 rw [apL, if_neg om_, h]; simp only []; rw [if_neg hb, if_neg h2, h3]; exact apEnd_err (gnum_err h3)
theorem apE_rng (hl : out.length < size) (h : gnum d at_ = .ok (m, a)) (hb : ¬ (m / 2 = 0 ∨ size - out.length < m / 2)) (h2 : ¬ m % 2 = 0) (h3 : gnum d a = .ok (k, a2)) (h4 : base.length < k ∨ base.length - k < m / 2) : apEnd d (apL base d size (f + 1) at_ out) = ([], 9) := by
 rw [apL, if_neg om_, h]; simp only []; rw [if_neg hb, if_neg h2, h3]; simp only []; rw [if_pos h4]; exact apEnd_err de_
theorem ap_copy (hl : out.length < size) (h : gnum d at_ = .ok (m, a)) (hb : ¬ (m / 2 = 0 ∨ size - out.length < m / 2)) (h2 : ¬ m % 2 = 0) (h3 : gnum d a = .ok (k, a2)) (h4 : ¬ (base.length < k ∨ base.length - k < m / 2)) : apL base d size (f + 1) at_ out = apL base d size f a2 (out ++ (base.drop k).take (m / 2)) := by
 rw [apL, if_neg om_, h]; simp only []; rw [if_neg hb, if_neg h2, h3]; simp only []; rw [if_neg h4]
end
theorem apL_len {base d : List UInt8} {size : Nat} : ∀ (f at_ : Nat) (out : List UInt8), out.length ≤ size → (apL base d size f at_ out).2.2.length ≤ size
 | 0, at_, out, h => h
 | f + 1, at_, out, h => by
  rw [apL]
  split
  ·
   exact h
  rename_i hlt
  split
  ·
   exact h
  split
  ·
   exact h
  rename_i hb
  have hb2 := not_or.1 hb
  split
  ·
   split
   ·
    exact h
   ·
    exact apL_len f _ _ (by rw [List.length_append, List.length_take]; omega)
  ·
   split
   ·
    exact h
   split
   ·
    exact h
   ·
    exact apL_len f _ _ (by rw [List.length_append, List.length_take]; omega)
theorem apB_len (base d : List UInt8) : (apB base d).1.length ≤ 4096 := by
 unfold apB
 split
 ·
  simp
 split
 ·
  simp
 split
 ·
  simp
 split
 ·
  simp
 split
 ·
  simp
 ·
  rename_i size a2 _ hs
  have := apL_len (base := base) (d := d) (size := size) (size + 1) a2 [] (Nat.zero_le _)
  unfold apEnd
  split
  ·
   simp
  split
  ·
   simp
  ·
   show (apL base d size (size + 1) a2 []).2.2.length ≤ 4096
   omega
theorem ap_head {base d : List UInt8} {n1 a1 size a2 : Nat} {e1 e3 : Int} (hb : base.length ≤ 4096) (h1 : NumR d 0 0 n1 a1 e1) (h2 : NumR d a1 (refE e1 (decide (n1 ≠ base.length)) 1) size a2 e3) :
  apB base d = if refE e3 (decide (4096 < size)) 3 ≠ 0 then ([], refE e3 (decide (4096 < size)) 3) else apEnd d (apL base d size (size + 1) a2 []) := by
 unfold apB
 rw [if_neg om_]
 rcases h1 with ⟨_, he, hg⟩ | ⟨_, he, hg, hn, ha⟩ | ⟨h, _⟩
 ·
  rw [hg]; simp only []
  subst he
  by_cases hn : n1 = base.length
  ·
   rw [if_neg om_]
   have hr : refE 0 (decide (n1 ≠ base.length)) 1 = 0 := by rw [refE, if_neg (by simp [hn])]
   rw [hr] at h2
   rcases h2 with ⟨_, he, hg⟩ | ⟨_, he, hg, hs, ha⟩ | ⟨h, _⟩
   ·
    rw [hg]; simp only []
    subst he
    by_cases hs : 4096 < size
    ·
     rw [if_pos hs, decide_eq_true hs, refE_yes, if_pos de_]
    ·
     rw [if_neg hs, decide_eq_false hs, refE_no, if_neg (by simp)]
   ·
    rw [hg]; simp only []
    rw [refE_ne he, if_pos he]
   ·
    exact absurd rfl h
  ·
   rw [if_pos hn]
   have hr : refE 0 (decide (n1 ≠ base.length)) 1 = 1 := by rw [refE, if_pos ⟨rfl, by simp [hn]⟩]
   rw [hr] at h2
   rcases h2 with ⟨h, _⟩ | ⟨h, _⟩ | ⟨_, he, _, _⟩
   ·
    cases h
   ·
    cases h
   ·
    subst he
    rw [refE_ne de_, if_pos de_]
 ·
  rw [hg]; simp only []
  have hr : refE e1 (decide (n1 ≠ base.length)) 1 = e1 := by rw [refE, if_neg (fun x => he x.1)]
  rw [hr] at h2
  rcases h2 with ⟨h, _⟩ | ⟨h, _⟩ | ⟨_, he2, _, _⟩
  ·
   exact absurd h he
  ·
   exact absurd h he
  ·
   subst he2
   rw [refE_ne he, if_pos he]
 ·
  exact absurd rfl h
end Go.Pl
