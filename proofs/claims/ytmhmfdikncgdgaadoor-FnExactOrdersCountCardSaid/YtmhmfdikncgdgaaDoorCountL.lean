/- How many orders are possible: the plain law. No program in sight. -/
import Derived.Test.YtmhmfdikncgdgaaDoorOnce
namespace Go.Proofs.YtmhmfdikncgdgaaDoor
set_option linter.unusedVariables false

def mustC (p q : Cmd) : Bool := mustR p.p.data.toList q.p.data.toList p.z q.x
theorem under_irr (s : List UInt8) : underL s s = false := by
  unfold underL
  simp
theorem mustC_irr (c : Cmd) : mustC c c = false := by
  unfold mustC mustR
  rw [under_irr]; rfl
def sumE (F : Cmd → List Cmd → Nat) : List Cmd → List Cmd → Nat
  | _, [] => 0
  | pre, c :: r => F c (pre ++ r) + sumE F (pre ++ [c]) r
theorem sumE_congr {F G : Cmd → List Cmd → Nat} : ∀ (rest pre : List Cmd), (∀ a c b, pre ++ rest = a ++ c :: b → F c (a ++ b) = G c (a ++ b)) → sumE F pre rest = sumE G pre rest
  | [], _, _ => rfl
  | c :: r, pre, h => by
    unfold sumE
    rw [h pre c r rfl, sumE_congr r (pre ++ [c]) fun a d b hd => h a d b (by rw [← hd]; simp)]
theorem sumE_le {F : Cmd → List Cmd → Nat} {B : Nat} : ∀ (rest pre : List Cmd), (∀ a c b, pre ++ rest = a ++ c :: b → F c (a ++ b) ≤ B) → sumE F pre rest ≤ rest.length * B
  | [], _, _ => Nat.zero_le _
  | c :: r, pre, h => by
    unfold sumE
    have h1 := h pre c r rfl
    have h2 := sumE_le r (pre ++ [c]) fun a d b hd => h a d b (by rw [← hd]; simp)
    rw [List.length_cons, Nat.succ_mul]; omega
theorem sumE_zero {F : Cmd → List Cmd → Nat} (rest pre : List Cmd) (h : ∀ a c b, pre ++ rest = a ++ c :: b → F c (a ++ b) = 0) : sumE F pre rest = 0 := by
  have := sumE_le (F := F) (B := 0) rest pre fun a c b hd => by rw [h a c b hd]; exact Nat.le_refl _
  omega
def freeR (c : Cmd) (r : List Cmd) : Bool := r.all fun d => !mustC d c
def cntR : Nat → List Cmd → Nat
  | 0, _ => 1
  | m + 1, rest => sumE (fun c r => if freeR c r then cntR m r else 0) [] rest
def goesB (head : List Cmd) (c : Cmd) : Bool := head.all fun h => !mustC c h
def ordN : Nat → List Cmd → List Cmd → Nat
  | 0, _, _ => 1
  | m + 1, head, rest => sumE (fun c r => if goesB head c then ordN m (head ++ [c]) r else 0) [] rest
def badR (head rest : List Cmd) : Bool := rest.any fun r => head.any fun h => mustC r h
theorem ord_eq : ∀ (m : Nat) (head rest : List Cmd), rest.length = m → ordN m head rest = if m = 0 then 1 else if badR head rest then 0 else cntR m rest
  | 0, _, _, _ => rfl
  | m + 1, head, rest, hl => by
    rw [if_neg (by omega)]
    cases hb : badR head rest with
    | true =>
      rw [if_pos rfl]
      unfold ordN
      refine sumE_zero rest [] fun a c b hd => ?_
      rw [List.nil_append] at hd
      try dsimp only
      cases hg : goesB head c with
      | false => rfl
      | true =>
        rw [if_pos rfl, ord_eq m (head ++ [c]) (a ++ b) (by rw [hd] at hl; simp at hl ⊢; omega)]
        unfold badR at hb
        rw [List.any_eq_true] at hb
        obtain ⟨x, hx, hxh⟩ := hb
        have hxc : x ≠ c ∨ x ∈ a ++ b := by
          by_cases h : x = c
          · subst h
            unfold goesB at hg
            rw [List.any_eq_true] at hxh
            obtain ⟨h', hh', hm⟩ := hxh
            have := List.all_eq_true.1 hg h' hh'
            rw [hm] at this; cases this
          · exact .inl h
        have hin : x ∈ a ++ b := by
          rcases hxc with h | h
          · rw [hd] at hx; simp at hx ⊢
            rcases hx with h1 | h1 | h1
            · exact .inl h1
            · exact absurd h1 h
            · exact .inr h1
          · exact h
        have hm0 : m ≠ 0 := by
          intro h0; subst h0
          rw [hd] at hl; simp at hl
          obtain ⟨ha, hb'⟩ : a = [] ∧ b = [] := ⟨List.eq_nil_of_length_eq_zero (by omega), List.eq_nil_of_length_eq_zero (by omega)⟩
          subst ha; subst hb'; simp at hin
        rw [if_neg hm0, if_pos]
        unfold badR
        rw [List.any_eq_true]
        exact ⟨x, hin, by rw [List.any_append, hxh]; rfl⟩
    | false =>
      rw [if_neg (by simp)]
      unfold ordN cntR
      refine sumE_congr rest [] fun a c b hd => ?_
      rw [List.nil_append] at hd
      try dsimp only
      unfold badR at hb
      rw [List.any_eq_false] at hb
      have hno : ∀ x ∈ rest, ∀ h ∈ head, mustC x h = false := fun x hx h hh => by
        have := hb x hx
        rw [Bool.not_eq_true, List.any_eq_false] at this
        simpa using this h hh
      have hg : goesB head c = true := by
        unfold goesB
        rw [List.all_eq_true]
        intro h hh
        rw [hno c (by rw [hd]; simp) h hh]; rfl
      rw [if_pos hg, ord_eq m (head ++ [c]) (a ++ b) (by rw [hd] at hl; simp at hl ⊢; omega)]
      by_cases hm0 : m = 0
      · subst hm0
        rw [hd] at hl; simp at hl
        obtain ⟨ha, hb'⟩ : a = [] ∧ b = [] := ⟨List.eq_nil_of_length_eq_zero (by omega), List.eq_nil_of_length_eq_zero (by omega)⟩
        subst ha; subst hb'
        rfl
      · rw [if_neg hm0]
        have e : badR (head ++ [c]) (a ++ b) = !freeR c (a ++ b) := by
          have e1 : ∀ x ∈ a ++ b, (head ++ [c]).any (fun h => mustC x h) = mustC x c := fun x hx => by
            have hx' : x ∈ rest := by
              rw [hd]
              rcases List.mem_append.1 hx with h | h
              · exact List.mem_append_left _ h
              · exact List.mem_append_right _ (List.mem_cons_of_mem _ h)
            have h0 : head.any (fun h => mustC x h) = false := by
              rw [List.any_eq_false]
              intro h hh
              rw [hno x hx' h hh]; simp
            rw [List.any_append, h0]; simp
          unfold badR freeR
          rw [Bool.eq_iff_iff, List.any_eq_true, Bool.not_eq_true', List.all_eq_false]
          constructor
          · rintro ⟨x, hx, h⟩
            rw [e1 x hx] at h
            exact ⟨x, hx, by rw [h]; simp⟩
          · rintro ⟨x, hx, h⟩
            exact ⟨x, hx, by rw [e1 x hx]; simpa using h⟩
        rw [e]
        cases freeR c (a ++ b) <;> rfl
theorem cnt_le : ∀ (m : Nat) (rest : List Cmd), rest.length = m → m ≤ 6 → cntR m rest ≤ 6 ^ m
  | 0, _, _, _ => Nat.le_refl _
  | m + 1, rest, hl, hm => by
    unfold cntR
    have := sumE_le (F := fun c r => if freeR c r then cntR m r else 0) (B := 6 ^ m) rest [] fun a c b hd => by
      try dsimp only
      rw [List.nil_append] at hd
      split
      · exact cnt_le m (a ++ b) (by rw [hd] at hl; simp at hl ⊢; omega) (by omega)
      · exact Nat.zero_le _
    refine Nat.le_trans this ?_
    rw [Nat.pow_succ, Nat.mul_comm (6 ^ m)]
    exact Nat.mul_le_mul_right _ (by omega)
theorem cnt_le' {m : Nat} {rest : List Cmd} (hl : rest.length = m) (hm : m ≤ 6) : cntR m rest ≤ 46656 :=
  Nat.le_trans (cnt_le m rest hl hm) (Nat.pow_le_pow_right (n := 6) (by omega) hm)
theorem ord_le {m : Nat} {head rest : List Cmd} (hl : rest.length = m) (hm : m ≤ 6) : ordN m head rest ≤ 46656 := by
  rw [ord_eq m head rest hl]
  split
  · omega
  · split
    · omega
    · exact cnt_le' hl hm
theorem ord_nil {m : Nat} {rest : List Cmd} (hl : rest.length = m) : ordN m [] rest = cntR m rest := by
  rw [ord_eq m [] rest hl]
  split
  · rename_i h; subst h; rfl
  · rw [if_neg]
    unfold badR
    simp

/-- The commands that are left. -/
def unused : List Cmd → List Bool → List Cmd
  | c :: l, u :: us => if u then unused l us else c :: unused l us
  | _, _ => []
def sumU (F : Cmd → List Cmd → Nat) : List Cmd → List Cmd → List Bool → Nat
  | pre, c :: l, u :: us => if u then sumU F pre l us else F c (pre ++ unused l us) + sumU F (pre ++ [c]) l us
  | _, _, _ => 0
theorem sumU_eq (F : Cmd → List Cmd → Nat) : ∀ (l : List Cmd) (us : List Bool) (pre : List Cmd), sumU F pre l us = sumE F pre (unused l us)
  | [], _, _ => by unfold sumU unused sumE; rfl
  | _ :: _, [], _ => by unfold sumU unused sumE; rfl
  | c :: l, u :: us, pre => by
    cases u
    · rw [sumU, unused, if_neg (by simp), if_neg (by simp), sumU_eq F l us, sumE]
    · rw [sumU, unused, if_pos rfl, if_pos rfl, sumU_eq F l us]
theorem unused_app : ∀ (a b : List Cmd) (us vs : List Bool), a.length = us.length → unused (a ++ b) (us ++ vs) = unused a us ++ unused b vs
  | [], b, [], vs, _ => by simp [unused]
  | c :: a, b, u :: us, vs, h => by
    rw [List.cons_append, List.cons_append, unused, unused, unused_app a b us vs (by simpa using h)]
    cases u <;> simp
  | [], _, _ :: _, _, h => by simp at h
  | _ :: _, _, [], _, h => by simp at h
theorem unused_split {l : List Cmd} {us : List Bool} {k : Nat} (hl : us.length = l.length) (hk : k < l.length) {v : Bool} :
    unused l (us.set k v) = unused (l.take k) (us.take k) ++ (if v then [] else [l[k]]) ++ unused (l.drop (k + 1)) (us.drop (k + 1)) := by
  have e1 : l = l.take k ++ ([l[k]] ++ l.drop (k + 1)) := by simp
  have e2 : us.set k v = us.take k ++ ([v] ++ us.drop (k + 1)) := by
    rw [List.set_eq_take_append_cons_drop, if_pos (by omega)]; simp
  have h1 : (l.take k).length = (us.take k).length := by simp [List.length_take]; omega
  conv => lhs; rw [e2, e1]
  rw [unused_app _ _ _ _ h1, unused_app [l[k]] (l.drop (k + 1)) [v] (us.drop (k + 1)) rfl, List.append_assoc]
  try congr 1
  try congr 1
  try (cases v <;> simp [unused])
theorem unused_same {l : List Cmd} {us : List Bool} {k : Nat} (hl : us.length = l.length) (hk : k < l.length) {v : Bool} (hv : us[k]? = some v) :
    unused l us = unused (l.take k) (us.take k) ++ (if v then [] else [l[k]]) ++ unused (l.drop (k + 1)) (us.drop (k + 1)) := by
  have : us.set k v = us := by
    obtain ⟨h, hv⟩ := List.getElem?_eq_some_iff.1 hv
    subst hv
    exact List.set_getElem_self _
  conv => lhs; rw [← this]
  exact unused_split hl hk
theorem unused_take {l : List Cmd} {us : List Bool} {k : Nat} (hl : us.length = l.length) (hk : k < l.length) {v : Bool} (hv : us[k]? = some v) :
    unused (l.take (k + 1)) (us.take (k + 1)) = unused (l.take k) (us.take k) ++ (if v then [] else [l[k]]) := by
  obtain ⟨h, hv⟩ := List.getElem?_eq_some_iff.1 hv
  subst hv
  rw [List.take_succ_eq_append_getElem hk, List.take_succ_eq_append_getElem h, unused_app _ _ _ _ (by simp [List.length_take]; omega)]
  congr 1
  try (cases us[k] <;> simp [unused])
theorem sumU_step (F : Cmd → List Cmd → Nat) {l : List Cmd} {us : List Bool} {k : Nat} (hl : us.length = l.length) (hk : k < l.length) {v : Bool} (hv : us[k]? = some v) (pre : List Cmd) :
    sumU F pre (l.drop k) (us.drop k) = if v then sumU F pre (l.drop (k + 1)) (us.drop (k + 1)) else F l[k] (pre ++ unused (l.drop (k + 1)) (us.drop (k + 1))) + sumU F (pre ++ [l[k]]) (l.drop (k + 1)) (us.drop (k + 1)) := by
  obtain ⟨h, hv⟩ := List.getElem?_eq_some_iff.1 hv
  subst hv
  rw [List.drop_eq_getElem_cons hk, List.drop_eq_getElem_cons h, sumU]
end Go.Proofs.YtmhmfdikncgdgaaDoor
