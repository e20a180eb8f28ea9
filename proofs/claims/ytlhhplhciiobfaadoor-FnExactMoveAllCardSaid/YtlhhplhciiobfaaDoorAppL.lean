/- Commands applied one after the other, as plain lists. -/
import Derived.Test.YtlhhplhciiobfaaDoorPutS
import Derived.Test.YtlhhplhciiobfaaDoorLogV
namespace Go.Proofs.YtlhhplhciiobfaaDoor
set_option linter.unusedVariables false

/-- What the command puts. -/
def Cmd.nod (q : Cmd) : Nod := ⟨q.p, q.z, q.u⟩
/-- A command does not break at a tree. -/
def AppG (l : List Nod) (q : Cmd) : Prop := getN l q.p.data.toList = (q.x, q.y) ∧ PutG l q.nod
def appL (l : List Nod) (q : Cmd) : List Nod := putL l q.nod
/-- What CommandApply answers. -/
def CmdR (l : List Nod) (q : Cmd) (ys : List Nod) (b : Bool) : Prop :=
  (TreeP l ∧ okCmd q = true) ∧ AppG l q ∧ b = true ∧ ys = appL l q ∨ (TreeP l ∧ okCmd q = true) ∧ ¬ AppG l q ∧ b = false ∧ ys = l ∨ ¬ (TreeP l ∧ okCmd q = true) ∧ b = false ∧ ys = []
theorem CmdR.same {l : List Nod} {q : Cmd} {a b : List Nod} {c d : Bool} (h : CmdR l q a c) (k : CmdR l q b d) : a = b ∧ c = d := by
  rcases h with ⟨h1, h2, rfl, rfl⟩ | ⟨h1, h2, rfl, rfl⟩ | ⟨h1, rfl, rfl⟩ <;> rcases k with ⟨k1, k2, rfl, rfl⟩ | ⟨k1, k2, rfl, rfl⟩ | ⟨k1, rfl, rfl⟩
  · exact ⟨rfl, rfl⟩
  · exact absurd h2 k2
  · exact absurd h1 k1
  · exact absurd k2 h2
  · exact ⟨rfl, rfl⟩
  · exact absurd h1 k1
  · exact absurd k1 h1
  · exact absurd k1 h1
  · exact ⟨rfl, rfl⟩
theorem app_len (l : List Nod) (q : Cmd) : (appL l q).length ≤ l.length + 1 := put_len l q.nod
theorem CmdR.len {l : List Nod} {q : Cmd} {a : List Nod} {c : Bool} (h : CmdR l q a c) : a.length ≤ l.length + 1 := by
  rcases h with ⟨_, _, _, rfl⟩ | ⟨_, _, _, rfl⟩ | ⟨_, _, rfl⟩
  · exact app_len l q
  · omega
  · exact Nat.zero_le _
theorem okCmd_put {l : List Nod} {q : Cmd} (ht : TreeP l) (h : okCmd q = true) : TreeP l ∧ 0 < depthL q.nod.s ∧ okC q.nod.x q.nod.y = true := by
  unfold okCmd okK at h
  rw [Bool.and_eq_true, Bool.and_eq_true, Bool.and_eq_true, decide_eq_true_eq] at h
  exact ⟨ht, h.1.1.1, h.1.2⟩
theorem AppG.tree {l : List Nod} {q : Cmd} (h : AppG l q) : TreeP (appL l q) := h.2.2

/-- The tree after the first commands. -/
def atL (l : List Nod) (ks : List Cmd) (d : Nat) : List Nod := (ks.take d).foldl appL l
theorem atL_zero (l : List Nod) (ks : List Cmd) : atL l ks 0 = l := rfl
theorem atL_next {l : List Nod} {ks : List Cmd} {d : Nat} {q : Cmd} (h : ks[d]? = some q) : atL l ks (d + 1) = appL (atL l ks d) q := by
  unfold atL
  obtain ⟨hd, rfl⟩ := List.getElem?_eq_some_iff.1 h
  rw [List.take_succ_eq_append_getElem hd, List.foldl_append]
  rfl
/-- The first d commands do not break. -/
def GoesL (l : List Nod) (ks : List Cmd) (d : Nat) : Prop := ∀ j, j < d → ∀ q, ks[j]? = some q → AppG (atL l ks j) q
theorem GoesL.zero (l : List Nod) (ks : List Cmd) : GoesL l ks 0 := fun j hj => by omega
theorem GoesL.next {l : List Nod} {ks : List Cmd} {d : Nat} {q : Cmd} (h : GoesL l ks d) (hq : ks[d]? = some q) (ha : AppG (atL l ks d) q) : GoesL l ks (d + 1) := by
  intro j hj p hp
  by_cases hjd : j = d
  · subst hjd; rw [hq] at hp; injection hp with hp; subst hp; exact ha
  · exact h j (by omega) p hp
theorem GoesL.tree {l : List Nod} {ks : List Cmd} (ht : TreeP l) : ∀ {d : Nat}, d ≤ ks.length → GoesL l ks d → TreeP (atL l ks d)
  | 0, _, _ => ht
  | d + 1, hd, h => by
    have hlt' : d < ks.length := by omega
    have hq : ks[d]? = some ks[d] := List.getElem?_eq_getElem hlt'
    rw [atL_next hq]
    exact (h d (by omega) _ hq).tree
def StopL (l : List Nod) (ks : List Cmd) (d : Nat) : Prop := d ≤ ks.length ∧ GoesL l ks d ∧ ∀ q, ks[d]? = some q → ¬ AppG (atL l ks d) q
theorem StopL.same {l : List Nod} {ks : List Cmd} {d e : Nat} (h : StopL l ks d) (k : StopL l ks e) : d = e := by
  rcases Nat.lt_trichotomy d e with hlt | heq | hlt
  · have hlt' : d < ks.length := by have := k.1; omega
    have hq : ks[d]? = some ks[d] := List.getElem?_eq_getElem hlt'
    exact absurd (k.2.1 d hlt _ hq) (h.2.2 _ hq)
  · exact heq
  · have hlt' : e < ks.length := by have := h.1; omega
    have hq : ks[e]? = some ks[e] := List.getElem?_eq_getElem hlt'
    exact absurd (h.2.1 e hlt _ hq) (k.2.2 _ hq)
theorem StopL.end_ {l : List Nod} {ks : List Cmd} {n : Nat} (hn : ks.length = n) (h : GoesL l ks n) : StopL l ks n :=
  ⟨by omega, h, fun q hq => by rw [List.getElem?_eq_none (by omega)] at hq; cases hq⟩
/-- What LogApply answers. -/
def LogR (l : List Nod) (ks : List Cmd) (ys : List Nod) (z : Int) : Prop :=
  (TreeP l ∧ okLog ks = true) ∧ (∃ d, StopL l ks d ∧ z = d ∧ ys = atL l ks d) ∨ ¬ (TreeP l ∧ okLog ks = true) ∧ z = -1 ∧ ys = []
theorem LogR.same {l : List Nod} {ks : List Cmd} {a b : List Nod} {c d : Int} (h : LogR l ks a c) (k : LogR l ks b d) : a = b ∧ c = d := by
  rcases h with ⟨h1, x, h2, rfl, rfl⟩ | ⟨h1, rfl, rfl⟩ <;> rcases k with ⟨k1, y, k2, rfl, rfl⟩ | ⟨k1, rfl, rfl⟩
  · obtain rfl := h2.same k2
    exact ⟨rfl, rfl⟩
  · exact absurd h1 k1
  · exact absurd k1 h1
  · exact ⟨rfl, rfl⟩
theorem LogR.len {l : List Nod} {ks : List Cmd} {a : List Nod} {c : Int} (h : LogR l ks a c) : a.length ≤ 10 := by
  rcases h with ⟨h1, x, h2, rfl, rfl⟩ | ⟨h1, rfl, rfl⟩
  · exact (GoesL.tree h1.1 h2.1 h2.2.1).2.2
  · exact Nat.zero_le _
/-- A log fits a tree. -/
def FitL (l : List Nod) (ks : List Cmd) : Prop := (TreeP l ∧ okLog ks = true) ∧ GoesL l ks ks.length
theorem LogR.fits {l : List Nod} {ks : List Cmd} {a : List Nod} {c : Int} {n : Nat} (hn : ks.length = n) (h : LogR l ks a c) : c = n ↔ FitL l ks := by
  subst hn
  rcases h with ⟨h1, x, h2, rfl, rfl⟩ | ⟨h1, rfl, rfl⟩
  · constructor
    · intro he
      have : x = ks.length := by omega
      subst this
      exact ⟨h1, h2.2.1⟩
    · intro hf
      rw [h2.same (StopL.end_ rfl hf.2)]
  · constructor
    · intro he; omega
    · intro hf; exact absurd hf.1 h1
end Go.Proofs.YtlhhplhciiobfaaDoor
