/- More plain laws on paths, by their names. No program in sight. -/
import Derived.Test.YtokapkpebadcaaaDoorNormL
namespace Go.Proofs.YtokapkpebadcaaaDoor

theorem rootOr_nil : rootOr [] = [47] := rfl
theorem rootOr_ne {s : List UInt8} (h : s ≠ []) : rootOr s = joinC s := if_neg h
theorem rootOr_root {s : List UInt8} : rootOr s = [47] ↔ s = [] := by
  constructor
  · intro h
    cases s with
    | nil => rfl
    | cons a s => rw [rootOr_ne (by simp), joinC_cons] at h; cases h
  · rintro rfl; rfl
theorem rootOr_len {s : List UInt8} (h : s ≠ []) : (rootOr s).length = 2 * s.length := by rw [rootOr_ne h, joinC_len]
/-- A path's names. -/
theorem path_names {l : List UInt8} (h : pathB l = true) : ∃ cs, cs.length ≤ 4 ∧ (∀ c ∈ cs, letterB c = true) ∧ l = rootOr cs := by
  rcases pathB_iff.1 h with rfl | ⟨cs, h1, h2, h3, rfl⟩
  · exact ⟨[], by simp, by simp, rfl⟩
  · exact ⟨cs, h2, h3, (rootOr_ne h1).symm⟩
theorem path_of_names {cs : List UInt8} (h2 : cs.length ≤ 4) (h3 : ∀ c ∈ cs, letterB c = true) : pathB (rootOr cs) = true := by
  rw [pathB_root_or h3, decide_eq_true_eq]; exact h2
theorem depth_names {cs : List UInt8} (h2 : cs.length ≤ 4) (h3 : ∀ c ∈ cs, letterB c = true) : depthL (rootOr cs) = cs.length := by
  unfold depthL
  rw [if_pos (path_of_names h2 h3)]
  by_cases h : cs = []
  · subst h; rfl
  · rw [rootOr_len h]; omega
theorem parent_names (cs : List UInt8) (c : UInt8) : parentL (rootOr (cs ++ [c])) = rootOr cs := by
  rw [rootOr_ne (by simp), parent_join]; rfl
theorem under_names (as bs : List UInt8) : underL (rootOr as) (rootOr bs) = decide (as.length < bs.length ∧ bs.take as.length = as) := by
  by_cases ha : as = []
  · subst ha
    rw [rootOr_nil, under_root]
    by_cases hb : bs = []
    · subst hb; simp [rootOr_nil]
    · have h1 : ¬ rootOr bs = [47] := fun h => hb (rootOr_root.1 h)
      rw [decide_eq_false h1]
      have h2 : 0 < bs.length := List.length_pos_iff.2 hb
      simp [h2]
  · have h1 : ¬ rootOr as = [47] := fun h => ha (rootOr_root.1 h)
    have ha' : 0 < as.length := List.length_pos_iff.2 ha
    unfold underL
    rw [decide_eq_false h1, Bool.false_and, Bool.false_or, rootOr_len ha]
    by_cases hb : bs = []
    · subst hb
      rw [rootOr_nil]
      have h2 : ¬ 2 * as.length < [(47 : UInt8)].length := by simp; omega
      rw [decide_eq_false h2, Bool.false_and]
      symm
      rw [decide_eq_false_iff_not]
      simp
    · rw [rootOr_len hb, rootOr_ne ha, rootOr_ne hb, joinC_take, Bool.eq_iff_iff, Bool.and_eq_true, decide_eq_true_eq, decide_eq_true_eq, decide_eq_true_eq]
      constructor
      · exact fun ⟨h1, h2⟩ => ⟨by omega, joinC_inj _ _ h2⟩
      · exact fun ⟨h1, h2⟩ => ⟨by omega, by rw [h2]⟩
theorem snoc_of {α : Type} {l : List α} (h : l ≠ []) : ∃ t c, l = t ++ [c] := ⟨l.dropLast, l.getLast h, (List.dropLast_concat_getLast h).symm⟩

/-- A path is under its parent. -/
theorem parent_facts {l : List UInt8} (h : 0 < depthL l) : ∃ (p : List UInt8) (k : Nat), parentL l = p ∧ p ≠ [] ∧ p.length ≤ 8 ∧ depthL p = k ∧ depthL l = ((k + 1 : Nat) : Int) ∧ k ≤ 3 ∧ (pathB p && pathB l && underL p l) = true ∧ (pathB l && pathB p && underL l p) = false := by
  obtain ⟨hp, hr⟩ := depth_pos.1 h
  obtain ⟨cs, h2, h3, rfl⟩ := path_names hp
  have h0 : cs ≠ [] := fun he => hr (rootOr_root.2 he)
  obtain ⟨t, c, rfl⟩ := snoc_of h0
  have ht : ∀ x ∈ t, letterB x = true := fun x hx => h3 x (List.mem_append_left _ hx)
  have hl : t.length ≤ 3 := by simp at h2; omega
  have hpt := path_of_names (by omega : t.length ≤ 4) ht
  have h4 := path_len hpt
  refine ⟨rootOr t, t.length, parent_names t c, fun he => ?_, h4.2.1, depth_names (by omega) ht, ?_, hl, ?_, ?_⟩
  · rw [he] at h4; simp at h4
  · rw [depth_names h2 h3]; simp
  · rw [hp, hpt, under_names]; simp
  · rw [hp, hpt, under_names]; simp; intro h; omega
/-- What is under a path is under its parent. -/
theorem under_parent {a b : List UInt8} (h : (pathB a && pathB b && underL a b) = true) : ∃ p, (if 0 < depthL b then parentL b else []) = p ∧ p.length ≤ 8 ∧ (p = a ∨ (pathB a && pathB p && underL a p) = true) := by
  rw [Bool.and_eq_true, Bool.and_eq_true] at h
  obtain ⟨⟨ha, hb⟩, hu⟩ := h
  obtain ⟨as, a2, a3, rfl⟩ := path_names ha
  obtain ⟨bs, b2, b3, rfl⟩ := path_names hb
  rw [under_names, decide_eq_true_eq] at hu
  have h0 : bs ≠ [] := by rintro rfl; simp at hu
  obtain ⟨t, c, rfl⟩ := snoc_of h0
  have ht : ∀ x ∈ t, letterB x = true := fun x hx => b3 x (List.mem_append_left _ hx)
  have hl : t.length ≤ 4 := by simp at b2; omega
  have hd : 0 < depthL (rootOr (t ++ [c])) := by rw [depth_names b2 b3, List.length_append, List.length_singleton]; omega
  refine ⟨_, rfl, ?_, ?_⟩
  · rw [if_pos hd, parent_names]; exact (path_len (path_of_names hl ht)).2.1
  · rw [if_pos hd, parent_names, ha, path_of_names hl ht, under_names]
    have h1 : as.length ≤ t.length := by simp at hu; omega
    have h2 : t.take as.length = as := by
      have := hu.2
      rwa [List.take_append_of_le_length h1] at this
    by_cases he : as.length = t.length
    · left
      rw [he, List.take_length] at h2
      rw [h2]
    · right
      simp [h2]; omega
theorem under_self {l : List UInt8} : underL l l = false := by
  unfold underL
  by_cases h : l = [47] <;> simp [h]
end Go.Proofs.YtokapkpebadcaaaDoor
