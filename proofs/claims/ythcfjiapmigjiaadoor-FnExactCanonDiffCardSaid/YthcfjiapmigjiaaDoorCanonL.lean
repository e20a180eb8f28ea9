/- Canonical logs: the plain law. No program in sight. -/
import Derived.Test.YthcfjiapmigjiaaDoorCanB
namespace Go.Proofs.YthcfjiapmigjiaaDoor
set_option linter.unusedVariables false

/-- What a later command does to one: the end of the later one is the end of both. -/
def mrg1 (c d : Cmd) : Option Cmd := if d.s = c.s then (if d.x = c.z ∧ d.y = c.u then some ⟨c.p, c.x, c.y, d.z, d.u⟩ else none) else some c
def mrgL : List Cmd → Cmd → Option Cmd
  | [], c => some c
  | d :: t, c => (mrg1 c d).bind (mrgL t)
def allM (f : Cmd → Option Cmd) : List Cmd → Option (List Cmd)
  | [] => some []
  | c :: l => (f c).bind fun d => (allM f l).bind fun r => some (d :: r)
/-- The reference: each command whose path is new, with all that come behind it. -/
def refL : List Cmd → List (List UInt8) → Option (List Cmd)
  | [], _ => some []
  | c :: t, prev => if c.s ∈ prev then refL t prev else (mrgL t c).bind fun d => (refL t (prev ++ [c.s])).bind fun r => some (d :: r)
/-- The program: one command more. -/
def stepP (out : List Cmd) (c : Cmd) : Option (List Cmd) := match out.findIdx? (fun d => decide (d.s = c.s)) with
  | none => some (out ++ [c])
  | some k => match out[k]? with
    | none => none
    | some o => if c.x = o.z ∧ c.y = o.u then some (out.set k ⟨o.p, o.x, o.y, c.z, c.u⟩) else none
def foldP : List Cmd → List Cmd → Option (List Cmd)
  | [], out => some out
  | c :: t, out => (stepP out c).bind (foldP t)
theorem mrg1_s {c d e : Cmd} (h : mrg1 c d = some e) : e.s = c.s := by
  unfold mrg1 at h
  split at h
  · split at h
    · injection h with h; subst h; rfl
    · cases h
  · injection h with h; subst h; rfl
theorem mrgL_s : ∀ (t : List Cmd) {c e : Cmd}, mrgL t c = some e → e.s = c.s
  | [], c, e, h => by injection h with h; subst h; rfl
  | d :: t, c, e, h => by
    unfold mrgL at h
    cases h1 : mrg1 c d with
    | none => rw [h1] at h; cases h
    | some f => rw [h1] at h; exact (mrgL_s t h).trans (mrg1_s h1)
theorem allM_app (f : Cmd → Option Cmd) : ∀ a b : List Cmd, allM f (a ++ b) = (allM f a).bind fun x => (allM f b).bind fun y => some (x ++ y)
  | [], b => by simp [allM]
  | c :: a, b => by
    rw [List.cons_append, allM, allM, allM_app f a b]
    cases f c <;> simp
    cases allM f a <;> simp
    cases allM f b <;> simp
theorem allM_congr {f g : Cmd → Option Cmd} : ∀ l : List Cmd, (∀ c ∈ l, f c = g c) → allM f l = allM g l
  | [], _ => rfl
  | c :: l, h => by rw [allM, allM, h c (by simp), allM_congr l fun d hd => h d (by simp [hd])]
theorem allM_none {f : Cmd → Option Cmd} {c : Cmd} : ∀ l : List Cmd, c ∈ l → f c = none → allM f l = none
  | d :: l, h, hf => by
    rw [allM]
    rcases List.mem_cons.1 h with rfl | h
    · rw [hf]; rfl
    · rw [allM_none l h hf]; cases f d <;> rfl
def pathsOf (l : List Cmd) : List (List UInt8) := l.map Cmd.s
theorem allM_mrg_far {t : List Cmd} {c : Cmd} {out : List Cmd} (h : c.s ∉ pathsOf out) : allM (mrgL (c :: t)) out = allM (mrgL t) out :=
  allM_congr out fun d hd => by
    have hne : ¬ c.s = d.s := fun e => h (by rw [e]; exact List.mem_map_of_mem hd)
    rw [mrgL, mrg1, if_neg hne]; rfl
theorem fold_eq : ∀ (l out : List Cmd), (pathsOf out).Nodup → foldP l out = (allM (mrgL l) out).bind fun a => (refL l (pathsOf out)).bind fun b => some (a ++ b)
  | [], out, _ => by
    have : ∀ out : List Cmd, allM (mrgL []) out = some out := fun out => by
      induction out with
      | nil => rfl
      | cons c l ih => rw [allM, ih]; rfl
    rw [foldP, this, refL]; simp
  | c :: t, out, hn => by
    rw [foldP, stepP]
    cases hf : out.findIdx? (fun d => decide (d.s = c.s)) with
    | none =>
      have hno : c.s ∉ pathsOf out := by
        intro hm
        obtain ⟨d, hd, he⟩ := List.mem_map.1 hm
        have := List.findIdx?_eq_none_iff.1 hf d hd
        simp [he] at this
      dsimp only
      rw [Option.bind_some, fold_eq t (out ++ [c]) (by
        unfold pathsOf at hno ⊢
        rw [List.map_append, List.nodup_append]
        refine ⟨hn, by simp, ?_⟩
        intro a ha b hb
        simp at hb
        subst hb
        rintro rfl
        exact hno ha), allM_app, allM_mrg_far hno, refL, if_neg hno]
      have hp : pathsOf (out ++ [c]) = pathsOf out ++ [c.s] := by simp [pathsOf]
      rw [hp]
      cases allM (mrgL t) out <;> simp [allM]
      cases mrgL t c <;> simp
      cases refL t (pathsOf out ++ [c.s]) <;> simp
    | some k =>
      obtain ⟨hk, hks, hj⟩ := List.findIdx?_eq_some_iff_getElem.1 hf
      have hks' : out[k].s = c.s := by simpa using hks
      have hin : c.s ∈ pathsOf out := by rw [← hks']; exact List.mem_map_of_mem (List.getElem_mem hk)
      dsimp only
      rw [List.getElem?_eq_getElem hk, refL, if_pos hin]
      dsimp only
      have hsp : out = out.take k ++ out[k] :: out.drop (k + 1) := by simp
      have hfar : ∀ d ∈ out.take k ++ out.drop (k + 1), ¬ c.s = d.s := by
        intro d hd he
        have h2 := hn
        unfold pathsOf at h2
        rw [hsp, List.map_append, List.map_cons, List.nodup_append] at h2
        obtain ⟨_, h3, h4⟩ := h2
        rw [List.nodup_cons] at h3
        rcases List.mem_append.1 hd with h | h
        · exact h4 d.s (List.mem_map_of_mem h) out[k].s (by simp) (by rw [← he, hks'])
        · exact h3.1 (by rw [hks', he]; exact List.mem_map_of_mem h)
      have hpart : ∀ l' : List Cmd, (∀ d ∈ l', ¬ c.s = d.s) → allM (mrgL (c :: t)) l' = allM (mrgL t) l' := fun l' h =>
        allM_mrg_far fun hm => by
          obtain ⟨d, hd, he⟩ := List.mem_map.1 hm
          exact h d hd he.symm
      by_cases hz : c.x = out[k].z ∧ c.y = out[k].u
      · rw [if_pos hz, Option.bind_some]
        have hpo : pathsOf (out.set k ⟨out[k].p, out[k].x, out[k].y, c.z, c.u⟩) = pathsOf out := by
          unfold pathsOf
          rw [List.map_set]
          show (out.map Cmd.s).set k out[k].s = _
          conv => lhs; rw [show out[k].s = (out.map Cmd.s)[k]'(by simpa using hk) by simp]
          exact List.set_getElem_self _
        rw [fold_eq t _ (by rw [hpo]; exact hn), hpo]
        congr 1
        rw [List.set_eq_take_append_cons_drop, if_pos hk, allM_app]
        conv => rhs; rw [hsp, allM_app]
        rw [hpart _ fun d hd => hfar d (List.mem_append_left _ hd)]
        congr 1
        funext x
        rw [allM, allM, hpart _ fun d hd => hfar d (List.mem_append_right _ hd), mrgL, mrg1, if_pos hks'.symm, if_pos hz]
        rfl
      · rw [if_neg hz, Option.bind_none]
        have : allM (mrgL (c :: t)) out = none := allM_none out (List.getElem_mem hk) (by
          rw [mrgL, mrg1, if_pos hks'.symm, if_neg hz]; rfl)
        rw [this]; rfl
theorem fold_ref (l : List Cmd) : foldP l [] = refL l [] := by
  rw [fold_eq l [] (by simp [pathsOf])]
  show (some []).bind _ = _
  rw [Option.bind_some]
  show (refL l []).bind _ = _
  cases refL l [] <;> rfl
theorem refL_congr : ∀ (l : List Cmd) {p q : List (List UInt8)}, (∀ x, x ∈ p ↔ x ∈ q) → refL l p = refL l q
  | [], _, _, _ => rfl
  | c :: t, p, q, h => by
    have h2 : ∀ x, x ∈ p ++ [c.s] ↔ x ∈ q ++ [c.s] := fun x => by rw [List.mem_append, List.mem_append, h x]
    rw [refL, refL, refL_congr t h, refL_congr t h2]
    by_cases hc : c.s ∈ p
    · rw [if_pos hc, if_pos ((h _).1 hc)]
    · rw [if_neg hc, if_neg (fun k => hc ((h _).2 k))]
theorem stepP_nodup {out o2 : List Cmd} {c : Cmd} (h : stepP out c = some o2) (hn : (pathsOf out).Nodup) : (pathsOf o2).Nodup ∧ o2.length ≤ out.length + 1 := by
  unfold stepP at h
  cases hf : out.findIdx? (fun d => decide (d.s = c.s)) with
  | none =>
    rw [hf] at h
    injection h with h
    subst h
    have hno : c.s ∉ pathsOf out := by
      intro hm
      obtain ⟨d, hd, he⟩ := List.mem_map.1 hm
      have := List.findIdx?_eq_none_iff.1 hf d hd
      simp [he] at this
    refine ⟨?_, by simp⟩
    unfold pathsOf at hno hn ⊢
    rw [List.map_append, List.nodup_append]
    refine ⟨hn, by simp, ?_⟩
    intro a ha b hb
    simp at hb
    subst hb
    rintro rfl
    exact hno ha
  | some k =>
    rw [hf] at h
    obtain ⟨hk, hks, hj⟩ := List.findIdx?_eq_some_iff_getElem.1 hf
    simp only [List.getElem?_eq_getElem hk] at h
    split at h
    · injection h with h
      subst h
      refine ⟨?_, by simp⟩
      have hpo : pathsOf (out.set k ⟨out[k].p, out[k].x, out[k].y, c.z, c.u⟩) = pathsOf out := by
        unfold pathsOf
        rw [List.map_set]
        show (out.map Cmd.s).set k out[k].s = _
        conv => lhs; rw [show out[k].s = (out.map Cmd.s)[k]'(by simpa using hk) by simp]
        exact List.set_getElem_self _
      rw [hpo]; exact hn
    · cases h
theorem foldP_nodup : ∀ (l : List Cmd) {out r : List Cmd}, foldP l out = some r → (pathsOf out).Nodup → (pathsOf r).Nodup ∧ r.length ≤ out.length + l.length
  | [], out, r, h, hn => by injection h with h; subst h; exact ⟨hn, Nat.le_refl _⟩
  | c :: t, out, r, h, hn => by
    unfold foldP at h
    cases hs : stepP out c with
    | none => rw [hs] at h; cases h
    | some o2 =>
      rw [hs] at h
      have h1 := stepP_nodup hs hn
      have h2 := foldP_nodup t h h1.1
      exact ⟨h2.1, by rw [List.length_cons]; omega⟩
/-- A command changes something. -/
def chg (c : Cmd) : Bool := !(c.x == c.z && c.y == c.u)
theorem refL_nodup {l r : List Cmd} (h : refL l [] = some r) : (pathsOf r).Nodup ∧ r.length ≤ l.length := by
  rw [← fold_ref] at h
  simpa using foldP_nodup l h (by simp [pathsOf])
theorem filter_nodup {r : List Cmd} (h : (pathsOf r).Nodup) (p : Cmd → Bool) : ((r.filter p).map Cmd.s).Nodup := by
  unfold pathsOf at h
  exact h.sublist ((List.filter_sublist).map _)
end Go.Proofs.YthcfjiapmigjiaaDoor
