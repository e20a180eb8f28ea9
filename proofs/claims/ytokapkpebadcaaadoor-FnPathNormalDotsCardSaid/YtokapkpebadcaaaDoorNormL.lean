/- Plain laws on normal paths. No program in sight. -/
import Derived.Test.YtokapkpebadcaaaDoorPathL
namespace Go.Proofs.YtokapkpebadcaaaDoor

/-- One part of a text is done: the names so far, or none where it means no path. -/
def stepN (st : Option (List UInt8)) (p : List UInt8) : Option (List UInt8) :=
  match st with
  | none => none
  | some s => if p = [] ∨ p = [46] then some s else if p = [46, 46] then (if s = [] then none else some s.dropLast) else if nameB p = true then some (s ++ p) else none
def rootOr (s : List UInt8) : List UInt8 := if s = [] then [47] else joinC s
def normParts (ps : List (List UInt8)) : Option (List UInt8) := ps.foldl stepN (some [])
def endN (st : Option (List UInt8)) : Option (List UInt8) := match st with
  | none => none
  | some s => if pathB (rootOr s) = true then some (rootOr s) else none
/-- The path that a text means. -/
def normL (l : List UInt8) : Option (List UInt8) := if l.length ≤ 40 ∧ l.head? = some 47 then endN (normParts (splitC 47 (l.drop 1))) else none

theorem stepN_none (ps : List (List UInt8)) : ps.foldl stepN none = none := by
  induction ps with
  | nil => rfl
  | cons p ps ih => exact ih
theorem stepN_letters {s p s' : List UInt8} (hs : ∀ c ∈ s, letterB c = true) (h : stepN (some s) p = some s') : ∀ c ∈ s', letterB c = true := by
  unfold stepN at h
  simp only at h
  split at h
  · injection h with h; subst h; exact hs
  · split at h
    · split at h
      · cases h
      · injection h with h; subst h; exact fun c hc => hs c (List.dropLast_subset _ hc)
    · split at h
      · rename_i hn
        injection h with h; subst h
        obtain ⟨x, rfl, hx⟩ := nameB_form hn
        intro c hc
        rcases List.mem_append.1 hc with hc | hc
        · exact hs c hc
        · simp at hc; subst hc; exact hx
      · cases h
theorem fold_letters : ∀ (ps : List (List UInt8)) {s s' : List UInt8}, (∀ c ∈ s, letterB c = true) → ps.foldl stepN (some s) = some s' → ∀ c ∈ s', letterB c = true
  | [], s, s', hs, h => by injection h with h; subst h; exact hs
  | p :: ps, s, s', hs, h => by
    rw [List.foldl_cons] at h
    cases hst : stepN (some s) p with
    | none => rw [hst, stepN_none] at h; cases h
    | some t => rw [hst] at h; exact fold_letters ps (stepN_letters hs hst) h
theorem splitC_append (c : UInt8) : ∀ (x y : List UInt8), splitC c (x ++ c :: y) = splitC c x ++ splitC c y
  | [], y => by simp [splitC]
  | b :: x, y => by
    have ih := splitC_append c x y
    by_cases hb : b = c
    · subst hb; simp [splitC, ih]
    · obtain ⟨z, t, hz⟩ : ∃ z t, splitC c x = z :: t := by
        cases hs : splitC c x with
        | nil => exact absurd hs (splitC_ne c x)
        | cons z t => exact ⟨z, t, rfl⟩
      have e : ∀ l, splitC c (b :: l) = match splitC c l with | [] => [[b]] | x :: t => (b :: x) :: t := fun l => by rw [splitC, if_neg hb]; rfl
      rw [List.cons_append, e, e, ih, hz]
      rfl
theorem pathB_root_or {s : List UInt8} (hs : ∀ c ∈ s, letterB c = true) : pathB (rootOr s) = decide (s.length ≤ 4) := by
  unfold rootOr
  by_cases h0 : s = []
  · subst h0; rw [if_pos rfl, pathB_root]; rfl
  · rw [if_neg h0, Bool.eq_iff_iff, decide_eq_true_eq, pathB_iff]
    constructor
    · rintro (h | ⟨cs, h1, h2, h3, h4⟩)
      · exfalso
        cases s with
        | nil => exact h0 rfl
        | cons a s => rw [joinC_cons] at h; cases h
      · rw [joinC_inj _ _ h4]; exact h2
    · exact fun h => .inr ⟨s, h0, h, hs, rfl⟩
theorem fold_names (cs : List UInt8) (hc : ∀ c ∈ cs, letterB c = true) : ∀ s : List UInt8, (cs.map fun x => [x]).foldl stepN (some s) = some (s ++ cs) := by
  induction cs with
  | nil => intro s; simp
  | cons c cs ih =>
    intro s
    have h1 : stepN (some s) [c] = some (s ++ [c]) := by
      have hl := hc c (List.mem_cons_self ..)
      have hne : c ≠ 46 := by rintro rfl; exact absurd hl (by decide)
      unfold stepN
      simp [hne, nameB_one, hl]
    rw [List.map_cons, List.foldl_cons, h1, ih (fun x hx => hc x (List.mem_cons_of_mem _ hx))]
    simp
/-- A path is normal. -/
theorem norm_path {l : List UInt8} (h : pathB l = true) : normL l = some l := by
  rcases pathB_iff.1 h with rfl | ⟨cs, h1, h2, h3, rfl⟩
  · decide
  · have hl := joinC_len cs
    cases cs with
    | nil => exact absurd rfl h1
    | cons c cs =>
      have hne := fun x hx => letter_ne (h3 x hx)
      have hp : normParts (splitC 47 ((joinC (c :: cs)).drop 1)) = some (c :: cs) := by
        rw [joinC_cons, List.drop_succ_cons, List.drop_zero, splitC_joinC (hne c (List.mem_cons_self ..)) cs (fun x hx => hne x (List.mem_cons_of_mem _ hx))]
        exact fold_names (c :: cs) h3 []
      unfold normL
      rw [if_pos ⟨by rw [hl]; omega, rfl⟩, hp]
      unfold endN
      simp only
      rw [if_pos (by unfold rootOr; rw [if_neg (by simp)]; exact h)]
      unfold rootOr
      rw [if_neg (by simp)]
/-- A normal path is a path. -/
theorem norm_is_path {l p : List UInt8} (h : normL l = some p) : pathB p = true := by
  unfold normL at h
  split at h
  · unfold endN at h
    split at h
    · cases h
    · split at h
      · rename_i h1; injection h with h; rw [← h]; exact h1
      · cases h
  · cases h
theorem norm_more {l x : List UInt8} {ps : List (List UInt8)} (hx : splitC 47 x = ps) (hl : (l ++ 47 :: x).length ≤ 40) {p : List UInt8} (h : normL l = some p) (hps : ∀ s : List UInt8, ps.foldl stepN (some s) = some s) : normL (l ++ 47 :: x) = some p := by
  unfold normL at h ⊢
  split at h
  · rename_i hc
    obtain ⟨hc1, hc2⟩ := hc
    cases l with
    | nil => cases hc2
    | cons b l =>
      rw [if_pos ⟨hl, hc2⟩]
      rw [List.cons_append, List.drop_succ_cons, List.drop_zero, splitC_append, hx]
      rw [List.drop_succ_cons, List.drop_zero] at h
      unfold normParts at h ⊢
      rw [List.foldl_append]
      cases hf : (splitC 47 l).foldl stepN (some []) with
      | none => rw [hf] at h; cases h
      | some s => rw [hf] at h; rw [hps]; exact h
  · cases h
theorem norm_dot {l p : List UInt8} (hl : l.length ≤ 30) (h : normL l = some p) : normL (l ++ [47, 46]) = some p :=
  norm_more (x := [46]) rfl (by simp; omega) h (fun s => rfl)
theorem norm_slash {l p : List UInt8} (hl : l.length ≤ 30) (h : normL l = some p) : normL (l ++ [47]) = some p :=
  norm_more (x := []) rfl (by simp; omega) h (fun s => rfl)
theorem norm_up {l p : List UInt8} (hl : l.length ≤ 30) (h : normL l = some p) : normL (l ++ [47, 97, 47, 46, 46]) = some p :=
  norm_more (x := [97, 47, 46, 46]) rfl (by simp; omega) h (fun s => by
    show stepN (stepN (some s) [97]) [46, 46] = some s
    have h1 : stepN (some s) [97] = some (s ++ [97]) := by unfold stepN; simp [nameB]
    rw [h1]
    unfold stepN
    simp)
end Go.Proofs.YtokapkpebadcaaaDoor
