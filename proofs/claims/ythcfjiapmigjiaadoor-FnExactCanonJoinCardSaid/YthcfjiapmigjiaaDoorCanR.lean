/- What LogCanon answers: the plain law. -/
import Derived.Test.YthcfjiapmigjiaaDoorCanonL
import Derived.Test.YthcfjiapmigjiaaDoorLogV
import Derived.Test.YthcfjiapmigjiaaDoorCanE
namespace Go.Proofs.YthcfjiapmigjiaaDoor
set_option linter.unusedVariables false
set_option linter.unusedSimpArgs false

/-- What is out already, and what is still to come. -/
def outE (ys : List Cmd) (o : Option (List Cmd)) : Option (List Cmd) := o.map fun r => ys ++ r.filter chg
def canF (l : List Cmd) : Option (List Cmd) := if okLog l = true then (outE [] (refL l [])).map sortR else none
def CanR (l : List Cmd) (m : List Cmd) (b : Bool) : Prop := m = (canF l).getD [] ∧ b = (canF l).isSome
theorem CanR.same {l a b : List Cmd} {c d : Bool} (h : CanR l a c) (k : CanR l b d) : a = b ∧ c = d := ⟨h.1.trans k.1.symm, h.2.trans k.2.symm⟩
theorem CanR.no {l : List Cmd} (h : canF l = none) : CanR l [] false := ⟨by rw [h]; rfl, by rw [h]; rfl⟩
theorem CanR.yes {l m : List Cmd} (h : canF l = some m) : CanR l m true := ⟨by rw [h]; rfl, by rw [h]; rfl⟩
theorem canF_bad {l : List Cmd} (h : okLog l = false) : canF l = none := by unfold canF; rw [if_neg (by rw [h]; simp)]
theorem canF_ok {l : List Cmd} (h : okLog l = true) : canF l = (outE [] (refL l [])).map sortR := if_pos h
theorem outE_len {l m : List Cmd} (h : outE [] (refL l []) = some m) : m.length ≤ l.length ∧ (m.map Cmd.s).Nodup := by
  unfold outE at h
  cases hr : refL l [] with
  | none => rw [hr] at h; cases h
  | some r =>
    rw [hr] at h
    injection h with h
    have := refL_nodup hr
    subst h
    dsimp only
    exact ⟨by rw [List.nil_append]; exact Nat.le_trans (List.length_filter_le _ _) this.2, by rw [List.nil_append]; exact filter_nodup this.1 _⟩
theorem CanR.len {l m : List Cmd} {b : Bool} (h : CanR l m b) : m.length ≤ l.length := by
  rw [h.1]
  cases hb : okLog l with
  | false => rw [canF_bad hb]; exact Nat.zero_le _
  | true =>
    rw [canF_ok hb]
    cases ho : outE [] (refL l []) with
    | none => exact Nat.zero_le _
    | some r => simpa [sortR_len] using (outE_len ho).1
theorem noneHas_iff {l : List Cmd} {i : Nat} (hi : i ≤ l.length) {x : List UInt8} : NoneHas l i x ↔ x ∉ pathsOf (l.take i) := by
  unfold NoneHas pathsOf
  constructor
  · intro h hm
    obtain ⟨c, hc, rfl⟩ := List.mem_map.1 hm
    obtain ⟨j, hj, rfl⟩ := List.getElem_of_mem hc
    have hj' : j < i := by simp at hj; omega
    exact h j hj' _ (by rw [List.getElem_take]; exact List.getElem?_eq_getElem _) rfl
  · intro h j hj p hp e
    refine h (List.mem_map.2 ⟨p, ?_, e⟩)
    obtain ⟨hjl, rfl⟩ := List.getElem?_eq_some_iff.1 hp
    exact List.mem_take_iff_getElem.2 ⟨j, by omega, rfl⟩
theorem paths_next {l : List Cmd} {i : Nat} {c : Cmd} (hi : l[i]? = some c) : pathsOf (l.take (i + 1)) = pathsOf (l.take i) ++ [c.s] := by
  obtain ⟨h, rfl⟩ := List.getElem?_eq_some_iff.1 hi
  unfold pathsOf
  rw [take_snoc' l i h, List.map_append]; rfl
theorem dropC {l : List Cmd} {i : Nat} {c : Cmd} (hi : l[i]? = some c) : l.drop i = c :: l.drop (i + 1) := by
  obtain ⟨h, rfl⟩ := List.getElem?_eq_some_iff.1 hi
  exact List.drop_eq_getElem_cons h
theorem ref_seen {l ys : List Cmd} {i : Nat} {c : Cmd} (hi : l[i]? = some c) (hs : c.s ∈ pathsOf (l.take i)) :
    outE ys (refL (l.drop (i + 1)) (pathsOf (l.take (i + 1)))) = outE ys (refL (l.drop i) (pathsOf (l.take i))) := by
  rw [dropC hi, refL, if_pos hs, paths_next hi]
  congr 1
  refine refL_congr _ fun x => ?_
  rw [List.mem_append, List.mem_singleton]
  exact ⟨fun h => by rcases h with h | rfl; exact h; exact hs, .inl⟩
theorem ref_fail {l ys : List Cmd} {i : Nat} {c : Cmd} (hi : l[i]? = some c) (hs : c.s ∉ pathsOf (l.take i)) (hm : mrgL (l.drop (i + 1)) c = none) :
    outE ys (refL (l.drop i) (pathsOf (l.take i))) = none := by
  rw [dropC hi, refL, if_neg hs, hm]; rfl
theorem ref_new {l ys : List Cmd} {i : Nat} {c d : Cmd} (hi : l[i]? = some c) (hs : c.s ∉ pathsOf (l.take i)) (hm : mrgL (l.drop (i + 1)) c = some d) {zs : List Cmd} (hz : zs = if chg d = true then ys ++ [d] else ys) :
    outE zs (refL (l.drop (i + 1)) (pathsOf (l.take (i + 1)))) = outE ys (refL (l.drop i) (pathsOf (l.take i))) := by
  rw [dropC hi, refL, if_neg hs, hm, paths_next hi, hz]
  unfold outE
  rw [Option.bind_some]
  cases refL (l.drop (i + 1)) (pathsOf (l.take i) ++ [c.s]) with
  | none => rfl
  | some r =>
    show some _ = some _
    congr 1
    dsimp only
    rw [List.filter_cons]
    split <;> simp
theorem ref_end {l ys : List Cmd} {i : Nat} (hi : l.length ≤ i) (p : List (List UInt8)) : outE ys (refL (l.drop i) p) = some ys := by
  rw [List.drop_of_length_le hi, refL]; unfold outE; simp
theorem mrg_next {l : List Cmd} {k : Nat} {c d e : Cmd} {M : Option Cmd} (hk : l[k]? = some d) (h : mrgL (l.drop k) c = M) (he : mrg1 c d = some e) : mrgL (l.drop (k + 1)) e = M := by
  rw [dropC hk, mrgL, he] at h; exact h
theorem mrg_bad {l : List Cmd} {k : Nat} {c d : Cmd} {M : Option Cmd} (hk : l[k]? = some d) (h : mrgL (l.drop k) c = M) (he : mrg1 c d = none) : M = none := by
  rw [dropC hk, mrgL, he] at h; exact h.symm
theorem mrg_over {l : List Cmd} {k : Nat} {c : Cmd} {M : Option Cmd} (hk : l.length ≤ k) (h : mrgL (l.drop k) c = M) : M = some c := by
  rw [List.drop_of_length_le hk, mrgL] at h; exact h.symm
theorem mrg1_far {c d : Cmd} (h : d.s ≠ c.s) : mrg1 c d = some c := if_neg h
theorem mrg1_hit {c d : Cmd} (h : d.s = c.s) (k : d.x = c.z ∧ d.y = c.u) : mrg1 c d = some ⟨c.p, c.x, c.y, d.z, d.u⟩ := by unfold mrg1; rw [if_pos h, if_pos k]
theorem mrg1_miss {c d : Cmd} (h : d.s = c.s) (k : ¬ (d.x = c.z ∧ d.y = c.u)) : mrg1 c d = none := by unfold mrg1; rw [if_pos h, if_neg k]
end Go.Proofs.YthcfjiapmigjiaaDoor
