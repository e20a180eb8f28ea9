/- Plain laws on paths: what they look like, their depth, parents, what is under them. No program in sight. -/
import Derived.Test.YthcfjiapmigjiaaDoorStr
namespace Go.Proofs.YthcfjiapmigjiaaDoor

/-- The text of names, each behind a slash. -/
def joinC (cs : List UInt8) : List UInt8 := cs.flatMap fun c => [47, c]
def letterB (c : UInt8) : Bool := decide (97 ≤ c.toNat ∧ c.toNat ≤ 100)
theorem joinC_nil : joinC [] = [] := rfl
theorem joinC_cons (c : UInt8) (cs : List UInt8) : joinC (c :: cs) = 47 :: c :: joinC cs := rfl
theorem joinC_append (as bs : List UInt8) : joinC (as ++ bs) = joinC as ++ joinC bs := by unfold joinC; rw [List.flatMap_append]
theorem joinC_len (cs : List UInt8) : (joinC cs).length = 2 * cs.length := by
  induction cs with
  | nil => rfl
  | cons c cs ih => rw [joinC_cons, List.length_cons, List.length_cons, ih, List.length_cons]; omega
theorem joinC_take (cs : List UInt8) (n : Nat) : (joinC cs).take (2 * n) = joinC (cs.take n) := by
  induction cs generalizing n with
  | nil => simp [joinC]
  | cons c cs ih =>
    cases n with
    | zero => simp [joinC]
    | succ n => rw [joinC_cons, show 2 * (n + 1) = 2 * n + 1 + 1 from by omega, List.take_succ_cons, List.take_succ_cons, ih, List.take_succ_cons, joinC_cons]
theorem joinC_inj : ∀ (as bs : List UInt8), joinC as = joinC bs → as = bs
  | [], [], _ => rfl
  | [], b :: bs, h => by rw [joinC_cons] at h; cases h
  | a :: as, [], h => by rw [joinC_cons] at h; cases h
  | a :: as, b :: bs, h => by
    rw [joinC_cons, joinC_cons] at h
    injection h with _ h
    injection h with h1 h2
    rw [h1, joinC_inj as bs h2]
theorem nameB_one (c : UInt8) : nameB [c] = letterB c := rfl
theorem nameB_form {l : List UInt8} (h : nameB l = true) : ∃ c, l = [c] ∧ letterB c = true := by
  unfold nameB at h
  split at h
  · exact ⟨_, rfl, h⟩
  · cases h
theorem letter_ne {c : UInt8} (h : letterB c = true) : c ≠ 47 := by
  rintro rfl
  exact absurd h (by decide)
theorem splitC_joinC {c : UInt8} (hc : c ≠ 47) : ∀ (cs : List UInt8) (_ : ∀ x ∈ cs, x ≠ 47), splitC 47 (c :: joinC cs) = [c] :: cs.map fun x => [x]
  | [], _ => by simp [joinC, splitC, hc]
  | d :: cs, h => by
    have ih := splitC_joinC (h d (List.mem_cons_self ..)) cs (fun x hx => h x (List.mem_cons_of_mem _ hx))
    rw [joinC_cons]
    show (if c = 47 then _ else match splitC 47 (47 :: d :: joinC cs) with | [] => [[c]] | x :: t => (c :: x) :: t) = _
    rw [if_neg hc, show splitC 47 (47 :: d :: joinC cs) = [] :: splitC 47 (d :: joinC cs) from rfl, ih]
    rfl
theorem names_form : ∀ (n : Nat) (r : List UInt8), r.length ≤ n → (splitC 47 r).all nameB = true → ∃ cs, cs ≠ [] ∧ (∀ c ∈ cs, letterB c = true) ∧ 47 :: r = joinC cs ∧ (splitC 47 r).length = cs.length
  | n, [], _, h => by simp [splitC, nameB] at h
  | 0, b :: r, hn, _ => by simp at hn
  | n + 1, b :: r, hn, h => by
    by_cases hb : b = 47
    · simp [splitC, hb, nameB] at h
    · cases r with
      | nil =>
        have : splitC 47 [b] = [[b]] := by simp [splitC, hb]
        rw [this] at h ⊢
        simp only [List.all_cons, List.all_nil, Bool.and_true] at h
        exact ⟨[b], by simp, fun c hc => by simp at hc; subst hc; exact h, rfl, rfl⟩
      | cons d r =>
        by_cases hd : d = 47
        · subst hd
          have e : splitC 47 (b :: 47 :: r) = [b] :: splitC 47 r := by simp [splitC, hb]
          rw [e] at h ⊢
          rw [List.all_cons, Bool.and_eq_true] at h
          obtain ⟨cs, h1, h2, h3, h4⟩ := names_form n r (by simp at hn; omega) h.2
          refine ⟨b :: cs, by simp, ?_, by rw [joinC_cons, ← h3], by simp [h4]⟩
          intro c hc
          rcases List.mem_cons.1 hc with rfl | hc
          · exact h.1
          · exact h2 c hc
        · exfalso
          obtain ⟨x, t, hx⟩ : ∃ x t, splitC 47 (d :: r) = (d :: x) :: t := by
            unfold splitC
            rw [if_neg hd]
            split
            · exact ⟨_, _, rfl⟩
            · exact ⟨_, _, rfl⟩
          have e : splitC 47 (b :: d :: r) = (b :: d :: x) :: t := by
            show (if b = 47 then _ else match splitC 47 (d :: r) with | [] => [[b]] | x :: t => (b :: x) :: t) = _
            rw [if_neg hb, hx]
          rw [e] at h
          simp [nameB] at h
/-- What a path looks like. -/
theorem pathB_iff {l : List UInt8} : pathB l = true ↔ l = [47] ∨ ∃ cs, cs ≠ [] ∧ cs.length ≤ 4 ∧ (∀ c ∈ cs, letterB c = true) ∧ l = joinC cs := by
  constructor
  · intro h
    by_cases hl : l = [47]
    · exact .inl hl
    right
    cases l with
    | nil => cases h
    | cons b r =>
      by_cases hb : b = 47
      · subst hb
        have hr : r ≠ [] := by rintro rfl; exact hl rfl
        rw [pathB_slash r hr, Bool.and_eq_true, decide_eq_true_eq] at h
        obtain ⟨cs, h1, h2, h3, h4⟩ := names_form _ r (Nat.le_refl _) h.1
        exact ⟨cs, h1, by omega, h2, h3⟩
      · rw [pathB_other (by simpa using hb)] at h; cases h
  · rintro (rfl | ⟨cs, h1, h2, h3, rfl⟩)
    · exact pathB_root
    · cases cs with
      | nil => exact absurd rfl h1
      | cons c cs =>
        have hc := fun x hx => letter_ne (h3 x hx)
        rw [joinC_cons, pathB_slash _ (by simp), splitC_joinC (hc c (List.mem_cons_self ..)) cs (fun x hx => hc x (List.mem_cons_of_mem _ hx))]
        rw [Bool.and_eq_true, decide_eq_true_eq]
        refine ⟨?_, by simpa using h2⟩
        rw [List.all_eq_true]
        intro x hx
        rcases List.mem_cons.1 hx with rfl | hx
        · exact h3 c (List.mem_cons_self ..)
        · obtain ⟨y, hy, rfl⟩ := List.mem_map.1 hx
          exact h3 y (List.mem_cons_of_mem _ hy)
theorem path_join {cs : List UInt8} (h1 : cs ≠ []) (h2 : cs.length ≤ 4) (h3 : ∀ c ∈ cs, letterB c = true) : pathB (joinC cs) = true := pathB_iff.2 (.inr ⟨cs, h1, h2, h3, rfl⟩)
theorem path_len {l : List UInt8} (h : pathB l = true) : 1 ≤ l.length ∧ l.length ≤ 8 ∧ (l ≠ [47] → 2 ≤ l.length ∧ l.length % 2 = 0) := by
  rcases pathB_iff.1 h with rfl | ⟨cs, h1, h2, _, rfl⟩
  · exact ⟨by simp, by simp, fun h => absurd rfl h⟩
  · have : 1 ≤ cs.length := List.length_pos_iff.2 h1
    rw [joinC_len]
    exact ⟨by omega, by omega, fun _ => ⟨by omega, by omega⟩⟩
theorem path_no_empty : pathB [] = false := rfl

/-- The depth of a path. -/
def depthL (l : List UInt8) : Int := if pathB l = true then ((l.length / 2 : Nat) : Int) else -1
theorem depth_root : depthL [47] = 0 := by rw [depthL, if_pos pathB_root]; rfl
theorem depth_pos {l : List UInt8} : 0 < depthL l ↔ pathB l = true ∧ l ≠ [47] := by
  unfold depthL
  by_cases h : pathB l = true
  · rw [if_pos h]
    have h1 := path_len h
    by_cases hl : l = [47]
    · subst hl; simp
    · have := h1.2.2 hl
      simp only [h, hl, ne_eq, not_false_eq_true, and_self, iff_true]; omega
  · rw [if_neg h]; simp [h]

/-- The parent of a path other than the root. -/
def parentL (l : List UInt8) : List UInt8 := if l.length ≤ 2 then [47] else l.take (l.length - 2)
theorem parent_join (cs : List UInt8) (c : UInt8) : parentL (joinC (cs ++ [c])) = if cs = [] then [47] else joinC cs := by
  unfold parentL
  rw [joinC_len]
  by_cases h : cs = []
  · subst h; rfl
  · have : 1 ≤ cs.length := List.length_pos_iff.2 h
    rw [if_neg (by simp; omega), if_neg h, show 2 * (cs ++ [c]).length - 2 = 2 * cs.length from by simp; omega, joinC_take, List.take_left]

/-- What is under a path. -/
def underL (a b : List UInt8) : Bool := decide (a = [47]) && !decide (b = [47]) || decide (a.length < b.length) && decide (b.take a.length = a)
theorem under_prefix {a b : List UInt8} (ha : pathB a = true) (hb : pathB b = true) (hn : a ≠ [47]) : underL a b = (a ++ [47]).isPrefixOf b := by
  have hd : decide (a = [47]) = false := decide_eq_false hn
  unfold underL
  rw [hd, Bool.false_and, Bool.false_or, Bool.eq_iff_iff, Bool.and_eq_true, decide_eq_true_eq, decide_eq_true_eq, List.isPrefixOf_iff_prefix]
  rcases pathB_iff.1 ha with rfl | ⟨as, a1, a2, a3, rfl⟩
  · exact absurd rfl hn
  have hal : 1 ≤ as.length := List.length_pos_iff.2 a1
  constructor
  · rintro ⟨h1, h2⟩
    rcases pathB_iff.1 hb with rfl | ⟨bs, b1, b2, b3, rfl⟩
    · rw [joinC_len] at h1; simp at h1; omega
    · rw [joinC_len, joinC_len] at h1
      rw [joinC_len, joinC_take] at h2
      have h3 := joinC_inj _ _ h2
      have h4 : joinC bs = joinC as ++ joinC (bs.drop as.length) := by
        have h5 := List.take_append_drop as.length bs
        rw [h3] at h5
        rw [← joinC_append, h5]
      cases hd : bs.drop as.length with
      | nil => have := List.drop_eq_nil_iff.1 hd; omega
      | cons d t => rw [h4, hd, joinC_cons]; exact ⟨d :: joinC t, by simp⟩
  · rintro ⟨t, rfl⟩
    refine ⟨by simp, ?_⟩
    rw [List.append_assoc, List.take_left]
theorem under_root {b : List UInt8} : underL [47] b = (!decide (b = [47]) || decide (1 < b.length) && decide (b.take 1 = [47])) := by
  unfold underL; simp
theorem under_root_path {b : List UInt8} (hb : pathB b = true) : underL [47] b = !decide (b = [47]) := by
  rw [under_root]
  by_cases h : b = [47]
  · subst h; simp
  · simp [h]
end Go.Proofs.YthcfjiapmigjiaaDoor
