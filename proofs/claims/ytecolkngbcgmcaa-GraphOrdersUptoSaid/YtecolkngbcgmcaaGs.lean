/- The plain laws of graphs: lattice, order of lying within, meets. No condition; no program. -/
import Derived.Test.YtecolkngbcgmcaaHc
set_option linter.unusedSimpArgs false
set_option linter.unusedVariables false
namespace Go.Pl
open Go.Fw
variable {l : List Nd}
theorem wrongQ_zero (h : (readE l).2 = 0) {ids : List Dig} (hin : ∀ d ∈ ids, d ∈ idsL l) : wrongQ l ids = 0 := by
  rw [wrongQ, if_neg (by rw [h]; decide), if_neg]
  rintro ⟨d, hd, hn⟩
  exact hn (hin d hd)
theorem wrongQ_ok7 {ids : List Dig} (h : wrongQ l ids = 0) : (readE l).2 = 0 := by
  unfold wrongQ at h
  split at h
  · rename_i h1; exact absurd h h1
  · rename_i h1; exact Decidable.not_not.1 h1
theorem wrongQ_in7 {ids : List Dig} (h : wrongQ l ids = 0) : ∀ d ∈ ids, d ∈ idsL l := by
  intro d hd
  have hok := wrongQ_ok7 h
  rw [wrongQ, if_neg (by rw [hok]; decide)] at h
  split at h
  · omega
  · rename_i h2
    by_cases hm : d ∈ idsL l
    · exact hm
    · exact absurd ⟨d, hd, hm⟩ h2
theorem wrongQ_congr {a b : List Dig} (h : ∀ d, d ∈ a ↔ d ∈ b) : wrongQ l a = wrongQ l b := by
  unfold wrongQ
  have e : (∃ d ∈ a, d ∉ idsL l) ↔ ∃ d ∈ b, d ∉ idsL l := by
    constructor
    · rintro ⟨d, h1, h2⟩; exact ⟨d, (h d).1 h1, h2⟩
    · rintro ⟨d, h1, h2⟩; exact ⟨d, (h d).2 h1, h2⟩
  simp only [e]
/-- The heads of some IDs; what two lists have in common; lying within. -/
abbrev hdL (l : List Nd) (ids : List Dig) : List Dig := headsL l (mark0 l ids)
abbrev cmL (l : List Nd) (a b : List Dig) : List Dig := headsL l (andB (markS l a) (markS l b))
abbrev wiB (l : List Nd) (a b : List Dig) : Bool := a.all (bitAt (markS l b) l)
section
variable (h : (readE l).2 = 0)
include h
theorem hdL_mem {ids : List Dig} (hin : ∀ d ∈ ids, d ∈ idsL l) {d : Dig} : d ∈ hdL l ids ↔ IsHead l (· ∈ ids) d := heads_is h hin fun d hd => mark0_bit hd hin
theorem hdL_sub {ids : List Dig} (hin : ∀ d ∈ ids, d ∈ idsL l) {d : Dig} (hd : d ∈ hdL l ids) : d ∈ ids := ((hdL_mem h hin).1 hd).mem
theorem hdL_congr {a b : List Dig} (ha : ∀ d ∈ a, d ∈ idsL l) (hab : ∀ d, d ∈ a ↔ d ∈ b) : hdL l a = hdL l b :=
  up_eq (heads_up h) (heads_up h) fun d => by
    rw [hdL_mem h ha, hdL_mem h (fun d hd => ha d ((hab d).2 hd))]
    exact ⟨fun ⟨h1, h2⟩ => ⟨(hab d).1 h1, fun e he => h2 e ((hab e).2 he)⟩, fun ⟨h1, h2⟩ => ⟨(hab d).2 h1, fun e he => h2 e ((hab e).1 he)⟩⟩
theorem under_head {X : Dig → Prop} (hX : ∀ d, X d → d ∈ idsL l) {d : Dig} (hd : X d) : ∃ e, IsHead l X e ∧ Ab l e d := exists_head h hX hd (Nat.le_refl _)
theorem hdL_under {ids : List Dig} (hin : ∀ d ∈ ids, d ∈ idsL l) {d : Dig} (hd : d ∈ ids) : Under l (hdL l ids) d := by
  obtain ⟨e, he, hed⟩ := under_head h hin hd
  exact ⟨e, (hdL_mem h hin).2 he, hed⟩
/-- Heads of heads and others. -/
theorem hdL_left {a b : List Dig} (ha : ∀ d ∈ a, d ∈ idsL l) (hb : ∀ d ∈ b, d ∈ idsL l) : hdL l (hdL l a ++ b) = hdL l (a ++ b) := by
  have h1 : ∀ d ∈ hdL l a ++ b, d ∈ idsL l := fun d hd => by
    rcases List.mem_append.1 hd with hd | hd
    · exact ha d (hdL_sub h ha hd)
    · exact hb d hd
  have h2 : ∀ d ∈ a ++ b, d ∈ idsL l := fun d hd => by
    rcases List.mem_append.1 hd with hd | hd
    · exact ha d hd
    · exact hb d hd
  refine up_eq (heads_up h) (heads_up h) fun d => ?_
  rw [hdL_mem h h1, hdL_mem h h2]
  constructor
  · rintro ⟨hm, hx⟩
    have hdi := h1 d hm
    refine ⟨?_, fun e he hed => ?_⟩
    · rcases List.mem_append.1 hm with hm | hm
      · exact List.mem_append_left _ (hdL_sub h ha hm)
      · exact List.mem_append_right _ hm
    · rcases List.mem_append.1 he with he | he
      · obtain ⟨f, hf, hfe⟩ := under_head h (X := (· ∈ a)) ha he
        have e1 := hx f (List.mem_append_left _ ((hdL_mem h ha).2 hf)) (hfe.trans hed)
        subst e1
        exact (hfe.antisymm h hed hdi).symm
      · exact hx e (List.mem_append_right _ he) hed
  · rintro ⟨hm, hx⟩
    refine ⟨?_, fun e he hed => ?_⟩
    · rcases List.mem_append.1 hm with hm | hm
      · exact List.mem_append_left _ ((hdL_mem h ha).2 ⟨hm, fun e he => hx e (List.mem_append_left _ he)⟩)
      · exact List.mem_append_right _ hm
    · rcases List.mem_append.1 he with he | he
      · exact hx e (List.mem_append_left _ (hdL_sub h ha he)) hed
      · exact hx e (List.mem_append_right _ he) hed
theorem hdL_comm {a b : List Dig} (ha : ∀ d ∈ a, d ∈ idsL l) (hb : ∀ d ∈ b, d ∈ idsL l) : hdL l (a ++ b) = hdL l (b ++ a) :=
  hdL_congr h (fun d hd => by rcases List.mem_append.1 hd with hd | hd; exact ha d hd; exact hb d hd) fun d => by simp only [List.mem_append]; exact or_comm
theorem hdL_right {a b : List Dig} (ha : ∀ d ∈ a, d ∈ idsL l) (hb : ∀ d ∈ b, d ∈ idsL l) : hdL l (a ++ hdL l b) = hdL l (a ++ b) := by
  rw [hdL_comm h ha (fun d hd => hb d (hdL_sub h hb hd)), hdL_left h hb ha, hdL_comm h hb ha]
theorem hdL_self {a : List Dig} (ha : ∀ d ∈ a, d ∈ idsL l) : hdL l (hdL l a ++ hdL l a) = hdL l a := by
  rw [hdL_left h ha (fun d hd => ha d (hdL_sub h ha hd)), hdL_right h ha ha]
  exact hdL_congr h (fun d hd => by rcases List.mem_append.1 hd with hd | hd <;> exact ha d hd) fun d => by simp
theorem wiB_iff {a b : List Dig} (ha : ∀ d ∈ a, d ∈ idsL l) (hb : ∀ d ∈ b, d ∈ idsL l) : wiB l a b = true ↔ ∀ d ∈ a, Under l b d := by
  rw [wiB, List.all_eq_true]
  exact ⟨fun hx d hd => (markS_bit h hb (ha d hd)).1 (hx d hd), fun hx d hd => (markS_bit h hb (ha d hd)).2 (hx d hd)⟩
omit h in
theorem under_trans {a b : List Dig} {d : Dig} (hu : Under l a d) (hx : ∀ d ∈ a, Under l b d) : Under l b d := by
  obtain ⟨e, he, hed⟩ := hu
  obtain ⟨f, hf, hfe⟩ := hx e he
  exact ⟨f, hf, hfe.trans hed⟩
/-! ## Partial -/
theorem partial_self {a : List Dig} (ha : ∀ d ∈ a, d ∈ idsL l) : wiB l a (hdL l a) = true :=
  (wiB_iff h ha fun d hd => ha d (hdL_sub h ha hd)).2 fun d hd => hdL_under h ha hd
theorem partial_trans {a b c : List Dig} (ha : ∀ d ∈ a, d ∈ idsL l) (hb : ∀ d ∈ b, d ∈ idsL l) (hc : ∀ d ∈ c, d ∈ idsL l) (hab : wiB l a b = true) (hbc : wiB l b c = true) : wiB l a c = true :=
  (wiB_iff h ha hc).2 fun d hd => under_trans ((wiB_iff h ha hb).1 hab d hd) ((wiB_iff h hb hc).1 hbc)
theorem partial_eq {a b : List Dig} (ha : ∀ d ∈ a, d ∈ idsL l) (hb : ∀ d ∈ b, d ∈ idsL l) : (wiB l (hdL l a) (hdL l b) && wiB l (hdL l b) (hdL l a)) = decide (hdL l a = hdL l b) := by
  have hA : ∀ d ∈ hdL l a, d ∈ idsL l := fun d hd => ha d (hdL_sub h ha hd)
  have hB : ∀ d ∈ hdL l b, d ∈ idsL l := fun d hd => hb d (hdL_sub h hb hd)
  have key : ∀ {x y : List Dig} (hx : ∀ d ∈ x, d ∈ idsL l) (hy : ∀ d ∈ y, d ∈ idsL l), (∀ d ∈ hdL l x, Under l (hdL l y) d) → (∀ d ∈ hdL l y, Under l (hdL l x) d) → ∀ d ∈ hdL l x, d ∈ hdL l y := by
    intro x y hx hy h1 h2 d hd
    obtain ⟨e, he, hed⟩ := h1 d hd
    obtain ⟨f, hf, hfe⟩ := h2 e he
    have hh := (hdL_mem h hx).1 hd
    have e1 := hh.max f (hdL_sub h hx hf) (hfe.trans hed)
    subst e1
    have := hfe.antisymm h hed (hx f (hdL_sub h hx hf))
    rw [this]; exact he
  rw [Bool.eq_iff_iff, Bool.and_eq_true, wiB_iff h hA hB, wiB_iff h hB hA, decide_eq_true_iff]
  constructor
  · rintro ⟨h1, h2⟩
    exact up_eq (heads_up h) (heads_up h) fun d => ⟨key ha hb h1 h2 d, key hb ha h2 h1 d⟩
  · intro e
    rw [e]
    exact ⟨fun d hd => ⟨d, hd, .refl _⟩, fun d hd => ⟨d, hd, .refl _⟩⟩
/-! ## Meets -/
theorem cmL_mem {a b : List Dig} (ha : ∀ d ∈ a, d ∈ idsL l) (hb : ∀ d ∈ b, d ∈ idsL l) {d : Dig} : d ∈ cmL l a b ↔ IsHead l (fun d => Under l a d ∧ Under l b d) d :=
  heads_is h (fun d hd => under_ids h ha hd.1) fun d hd => by
    rw [andB_bit, Bool.and_eq_true, markS_bit h ha hd, markS_bit h hb hd]
theorem cmL_ids {a b : List Dig} (ha : ∀ d ∈ a, d ∈ idsL l) (hb : ∀ d ∈ b, d ∈ idsL l) : ∀ d ∈ cmL l a b, d ∈ idsL l := fun d hd => under_ids h ha ((cmL_mem h ha hb).1 hd).mem.1
theorem meets_left {a b : List Dig} (ha : ∀ d ∈ a, d ∈ idsL l) (hb : ∀ d ∈ b, d ∈ idsL l) : wiB l (cmL l a b) a = true := (wiB_iff h (cmL_ids h ha hb) ha).2 fun d hd => ((cmL_mem h ha hb).1 hd).mem.1
theorem meets_right {a b : List Dig} (ha : ∀ d ∈ a, d ∈ idsL l) (hb : ∀ d ∈ b, d ∈ idsL l) : wiB l (cmL l a b) b = true := (wiB_iff h (cmL_ids h ha hb) hb).2 fun d hd => ((cmL_mem h ha hb).1 hd).mem.2
theorem meets_iff {a b c : List Dig} (ha : ∀ d ∈ a, d ∈ idsL l) (hb : ∀ d ∈ b, d ∈ idsL l) (hc : ∀ d ∈ c, d ∈ idsL l) : wiB l c (cmL l a b) = (wiB l c a && wiB l c b) := by
  have hm := cmL_ids h ha hb
  rw [Bool.eq_iff_iff, Bool.and_eq_true, wiB_iff h hc hm, wiB_iff h hc ha, wiB_iff h hc hb]
  constructor
  · intro hx
    exact ⟨fun d hd => under_trans (hx d hd) fun e he => ((cmL_mem h ha hb).1 he).mem.1, fun d hd => under_trans (hx d hd) fun e he => ((cmL_mem h ha hb).1 he).mem.2⟩
  · rintro ⟨h1, h2⟩ d hd
    obtain ⟨e, he, hed⟩ := under_head h (X := fun d => Under l a d ∧ Under l b d) (fun d hd => under_ids h ha hd.1) ⟨h1 d hd, h2 d hd⟩
    exact ⟨e, (cmL_mem h ha hb).2 he, hed⟩
/-! ## The reference's -/
theorem commons_eq {a b : List Dig} (ha : ∀ d ∈ a, d ∈ idsL l) (hb : ∀ d ∈ b, d ∈ idsL l) : headsR l (srtD (bothD (aboveL l a) (aboveL l b))) = cmL l a b := by
  have hm : ∀ d, d ∈ srtD (bothD (aboveL l a) (aboveL l b)) ↔ Under l a d ∧ Under l b d := fun d => by
    rw [srtD, srt_mem, bothD, List.mem_filter, decide_eq_true_iff, above_mem h ha, above_mem h hb]
    simp
  exact headsR_eq h (srt_up _ _ List.Pairwise.nil) (fun d hd => under_ids h ha ((hm d).1 hd).1) (fun d hd => by rw [andB_bit, Bool.and_eq_true, markS_bit h ha hd, markS_bit h hb hd]; exact (hm d).symm)
theorem within_eq {a b : List Dig} (ha : ∀ d ∈ a, d ∈ idsL l) (hb : ∀ d ∈ b, d ∈ idsL l) : decide (∀ d ∈ a, d ∈ aboveL l b) = wiB l a b := by
  rw [Bool.eq_iff_iff, decide_eq_true_iff, wiB_iff h ha hb]
  exact ⟨fun hx d hd => (above_mem h hb).1 (hx d hd), fun hx d hd => (above_mem h hb).2 (hx d hd)⟩
theorem lacks_eq {a b : List Dig} (ha : ∀ d ∈ a, d ∈ idsL l) (hb : ∀ d ∈ b, d ∈ idsL l) : lacksL l a b = (ordL l a).filter fun d => !decide (d ∈ aboveL l b) := by
  rw [lacksL, order_marks h ha, keptD]
  refine List.filter_congr fun d hd => ?_
  have hdi := under_ids h ha ((ordL_mem h ha).1 hd)
  congr 1
  rw [Bool.eq_iff_iff, markS_bit h hb hdi, decide_eq_true_iff, above_mem h hb]
end
end Go.Pl
