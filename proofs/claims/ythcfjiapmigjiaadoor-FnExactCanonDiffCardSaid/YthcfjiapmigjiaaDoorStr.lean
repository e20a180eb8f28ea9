/- Plain laws on texts: names, pieces between slashes, paths. No program in sight. -/
import Derived.Lib.SplitLaws
import Derived.Lib.Hide
namespace Go.Proofs.YthcfjiapmigjiaaDoor

/-- A text cut at every c. -/
def splitC (c : UInt8) : List UInt8 → List (List UInt8)
  | [] => [[]]
  | b :: l => if b = c then [] :: splitC c l else match splitC c l with
    | [] => [[b]]
    | x :: t => (b :: x) :: t
theorem splitC_ne (c : UInt8) (l : List UInt8) : splitC c l ≠ [] := by
  cases l with
  | nil => simp [splitC]
  | cons b l =>
    unfold splitC
    split
    · simp
    · split <;> simp
theorem splitC_len (c : UInt8) : ∀ l : List UInt8, (splitC c l).length = l.count c + 1
  | [] => rfl
  | b :: l => by
    have ih := splitC_len c l
    unfold splitC
    by_cases h : b = c
    · subst h; simp [ih]
    · rw [if_neg h, List.count_cons_of_ne (by simpa using h)]
      split
      · rename_i h0; exact absurd h0 (splitC_ne c l)
      · rename_i h0; rw [h0] at ih; simpa using ih
theorem splitC_snoc (c b : UInt8) : ∀ (x : List UInt8) (out : List (List UInt8)) (y : List UInt8), splitC c x = out ++ [y] → splitC c (x ++ [b]) = if b = c then out ++ [y, []] else out ++ [y ++ [b]]
  | [], out, y, h => by
    have : out = [] ∧ y = [] := by
      cases out with
      | nil => simp [splitC] at h; exact ⟨rfl, h⟩
      | cons o t => simp [splitC] at h
    obtain ⟨rfl, rfl⟩ := this
    by_cases hb : b = c
    · simp [splitC, hb]
    · simp [splitC, hb]
  | a :: x, out, y, h => by
    by_cases ha : a = c
    · simp only [splitC, ha, if_true] at h
      cases out with
      | nil => simp at h; exact absurd h.2 (splitC_ne c x)
      | cons o t =>
        simp at h
        obtain ⟨rfl, h⟩ := h
        have ih := splitC_snoc c b x t y h
        by_cases hb : b = c
        · subst hb; rw [if_pos rfl] at ih; simp [splitC, ha, ih]
        · simp [splitC, ha, ih, hb]
    · have hne := splitC_ne c x
      obtain ⟨z, t, hz⟩ : ∃ z t, splitC c x = z :: t := by
        cases hs : splitC c x with
        | nil => exact absurd hs hne
        | cons z t => exact ⟨z, t, rfl⟩
      simp only [splitC, if_neg ha, hz] at h
      cases out with
      | nil =>
        simp at h
        obtain ⟨rfl, rfl⟩ := h
        have ih := splitC_snoc c b x [] z (by simpa using hz)
        by_cases hb : b = c
        · subst hb; rw [if_pos rfl] at ih; simp [splitC, ha, ih]
        · simp [splitC, ha, ih, hb]
      | cons o u =>
        simp at h
        obtain ⟨rfl, rfl⟩ := h
        have ih := splitC_snoc c b x (z :: u) y (by simpa using hz)
        by_cases hb : b = c
        · subst hb; rw [if_pos rfl] at ih; simp [splitC, ha, ih]
        · simp [splitC, ha, ih, hb]
/-- The library's pieces are these. -/
theorem splitK_eq (c : UInt8) : ∀ s : List UInt8, Lib.splitK [c] 0 (Lib.count s [c]) s = splitC c s
  | [] => by rw [Lib.count_miss (by simp [Lib.index])]; rfl
  | b :: l => by
    have ih := splitK_eq c l
    by_cases h : b = c
    · subst h
      have hix : Lib.index (b :: l) [b] = 0 := by rw [Lib.index]; simp [List.isPrefixOf]
      rw [Lib.count_cons_eq, Nat.add_comm]
      unfold Lib.splitK
      rw [hix]
      simp [splitC, ih]
    · have hp : ([c] : List UInt8).isPrefixOf (b :: l) = false := by simp [List.isPrefixOf, Ne.symm h]
      have hix : Lib.index (b :: l) [c] = if Lib.index l [c] == -1 then -1 else Lib.index l [c] + 1 := by rw [Lib.index, hp]; simp
      rw [Lib.count_cons_ne b c l h]
      simp only [splitC, if_neg h]
      by_cases hm : Lib.index l [c] = -1
      · rw [Lib.count_miss hm] at ih ⊢
        simp only [Lib.splitK] at ih ⊢
        rw [← ih]
      · have hge := Lib.index_ge l [c]
        obtain ⟨j, hj⟩ : ∃ j : Nat, Lib.index l [c] = j := ⟨(Lib.index l [c]).toNat, by omega⟩
        rw [Lib.count_hit (by simp) hj, Nat.add_comm] at ih ⊢
        have h1 : Lib.index (b :: l) [c] = ((j + 1 : Nat) : Int) := by rw [hix, if_neg (fun e => hm (beq_iff_eq.1 e)), hj]; omega
        unfold Lib.splitK at ih ⊢
        rw [hj] at ih
        rw [h1]
        have e1 : ((j : Int) == -1) = false := by simp
        have e2 : (((j + 1 : Nat) : Int) == -1) = false := by simp; omega
        rw [e1] at ih
        rw [e2]
        simp only [Bool.false_eq_true, if_false, Int.toNat_natCast, Nat.add_zero] at ih ⊢
        rw [← ih]
        simp only [List.take_succ_cons]
        congr 1
theorem splitB_eq (c : UInt8) (s : ByteArray) : (Lib.splitB ⟨#[c]⟩ 0 (Lib.countB s ⟨#[c]⟩) s).map (·.data.toList) = splitC c s.data.toList := by
  rw [Lib.splitB_data]
  exact splitK_eq c _

/-- A name: a letter from a to d. -/
def nameB (l : List UInt8) : Bool := match l with
  | [c] => decide (97 ≤ c.toNat ∧ c.toNat ≤ 100)
  | _ => false
/-- A path. -/
def pathB (l : List UInt8) : Bool := decide (l = [47]) || match l with
  | 47 :: r => (splitC 47 r).all nameB && decide ((splitC 47 r).length ≤ 4)
  | _ => false
theorem pathB_slash (r : List UInt8) (h : r ≠ []) : pathB (47 :: r) = ((splitC 47 r).all nameB && decide ((splitC 47 r).length ≤ 4)) := by
  unfold pathB
  have : decide ((47 :: r : List UInt8) = [47]) = false := by simp [h]
  rw [this, Bool.false_or]
  rfl
theorem pathB_root : pathB [47] = true := by simp [pathB]
theorem pathB_other {l : List UInt8} (h : l.head? ≠ some 47) : pathB l = false := by
  unfold pathB
  rw [Bool.or_eq_false_iff]
  refine ⟨decide_eq_false ?_, ?_⟩
  · rintro rfl; exact h rfl
  · split
    · exact absurd rfl h
    · rfl
end Go.Proofs.YthcfjiapmigjiaaDoor
