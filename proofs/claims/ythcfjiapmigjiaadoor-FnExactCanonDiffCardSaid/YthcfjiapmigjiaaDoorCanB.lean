/- The canonical order of commands, and the one sorted list: the plain law. No program in sight. -/
import Derived.Test.YthcfjiapmigjiaaDoorOpenK
import Derived.Test.YthcfjiapmigjiaaDoorBL
namespace Go.Proofs.YthcfjiapmigjiaaDoor
set_option linter.unusedVariables false
set_option linter.unusedSimpArgs false

def Cmd.s (c : Cmd) : List UInt8 := c.p.data.toList
instance : Inhabited Cmd := ⟨⟨ByteArray.empty, 0, 0, 0, 0⟩⟩
def endsB (x z : Int) : Bool := decide (z = 0) || decide (x = 1)
/-- A command comes before another one in canonical order. -/
def befB (s : List UInt8) (x z : Int) (t : List UInt8) (a c : Int) : Bool := match endsB x z, endsB a c with
  | true, true => Op.bytesLess t s
  | true, false => true
  | false, true => false
  | false, false => Op.bytesLess s t
def befC (c d : Cmd) : Bool := befB c.s c.x c.z d.s d.x d.z
theorem bl_conn {a b : List UInt8} (h : Op.bytesLess a b = false) (k : Op.bytesLess b a = false) : a = b := by
  by_cases e : a = b
  · exact e
  · rw [bl_total a b e, h] at k; cases k
theorem bl_ntrans {a b c : List UInt8} (h : Op.bytesLess a b = false) (k : Op.bytesLess b c = false) : Op.bytesLess a c = false := by
  cases hac : Op.bytesLess a c with
  | false => rfl
  | true =>
    by_cases e : a = b
    · subst e; rw [hac] at k; cases k
    · have h1 : Op.bytesLess b a = true := by rw [bl_total a b e, h]; rfl
      rw [bl_trans b a c h1 hac] at k; cases k
theorem befC_irr (c : Cmd) : befC c c = false := by
  unfold befC befB
  cases endsB c.x c.z <;> exact bl_irr _
theorem befC_trans (a b c : Cmd) (h : befC a b = true) (k : befC b c = true) : befC a c = true := by
  unfold befC befB at h k ⊢
  revert h k
  cases endsB a.x a.z <;> cases endsB b.x b.z <;> cases endsB c.x c.z <;> dsimp only <;> intro h k <;> first | rfl | exact absurd h (by decide) | exact absurd k (by decide) | exact bl_trans _ _ _ h k | exact bl_trans _ _ _ k h
theorem befC_ntrans (a b c : Cmd) (h : befC a b = false) (k : befC b c = false) : befC a c = false := by
  unfold befC befB at h k ⊢
  revert h k
  cases endsB a.x a.z <;> cases endsB b.x b.z <;> cases endsB c.x c.z <;> dsimp only <;> intro h k <;> first | rfl | exact absurd h (by decide) | exact absurd k (by decide) | exact bl_ntrans h k | exact bl_ntrans k h
theorem befC_conn {a b : Cmd} (h : befC a b = false) (k : befC b a = false) : a.s = b.s := by
  unfold befC befB at h k
  revert h k
  cases endsB a.x a.z <;> cases endsB b.x b.z <;> dsimp only <;> intro h k <;> first | exact absurd h (by decide) | exact absurd k (by decide) | exact bl_conn h k | exact bl_conn k h
/-- The reference's sorting: each command is put ahead of the first one that it comes before. -/
def putR (c : Cmd) : List Cmd → List Cmd
  | [] => [c]
  | d :: t => if befC c d = true then c :: d :: t else d :: putR c t
def sortR (l : List Cmd) : List Cmd := l.foldl (fun o c => putR c o) []
theorem putR_perm (c : Cmd) : ∀ l, (putR c l).Perm (c :: l)
  | [] => List.Perm.refl _
  | d :: t => by
    unfold putR
    split
    · exact List.Perm.refl _
    · exact (List.Perm.cons d (putR_perm c t)).trans (List.Perm.swap c d t)
def SortedC (l : List Cmd) : Prop := l.Pairwise fun a b => befC b a = false
theorem putR_sorted (c : Cmd) : ∀ l, SortedC l → SortedC (putR c l)
  | [], _ => List.pairwise_singleton _ _
  | d :: t, h => by
    unfold SortedC at h
    rw [List.pairwise_cons] at h
    unfold putR SortedC
    split
    · next hb =>
      have hdc : befC d c = false := by
        cases hd : befC d c with
        | false => rfl
        | true => have := befC_trans c d c hb hd; rw [befC_irr] at this; cases this
      refine List.pairwise_cons.2 ⟨fun e he => ?_, List.pairwise_cons.2 h⟩
      rcases List.mem_cons.1 he with rfl | he
      · exact hdc
      · exact befC_ntrans _ _ _ (h.1 e he) hdc
    · next hb =>
      refine List.pairwise_cons.2 ⟨fun e he => ?_, putR_sorted c t h.2⟩
      rcases List.mem_cons.1 ((putR_perm c t).mem_iff.1 he) with rfl | he
      · simpa using hb
      · exact h.1 e he
theorem sortR_snoc (l : List Cmd) (c : Cmd) : sortR (l ++ [c]) = putR c (sortR l) := by simp [sortR]
theorem fold_perm : ∀ l o : List Cmd, (l.foldl (fun o c => putR c o) o).Perm (l ++ o)
  | [], o => List.Perm.refl _
  | c :: l, o => (fold_perm l (putR c o)).trans ((List.Perm.append_left l (putR_perm c o)).trans List.perm_middle)
theorem fold_sorted : ∀ l o : List Cmd, SortedC o → SortedC (l.foldl (fun o c => putR c o) o)
  | [], o, h => h
  | c :: l, o, h => fold_sorted l _ (putR_sorted c o h)
theorem sortR_perm (l : List Cmd) : (sortR l).Perm l := by unfold sortR; simpa using fold_perm l []
theorem sortR_sorted (l : List Cmd) : SortedC (sortR l) := fold_sorted l [] List.Pairwise.nil
theorem sortR_len (l : List Cmd) : (sortR l).length = l.length := (sortR_perm l).length_eq
theorem nodup_inj {l : List Cmd} (h : (l.map Cmd.s).Nodup) : ∀ {a b : Cmd}, a ∈ l → b ∈ l → a.s = b.s → a = b := by
  induction l with
  | nil => intro a b ha; cases ha
  | cons c l ih =>
    intro a b ha hb e
    rw [List.map_cons, List.nodup_cons] at h
    rcases List.mem_cons.1 ha with ea | ha' <;> rcases List.mem_cons.1 hb with eb | hb'
    · rw [ea, eb]
    · exact absurd (by rw [← ea, e]; exact List.mem_map_of_mem hb') h.1
    · exact absurd (by rw [← eb, ← e]; exact List.mem_map_of_mem ha') h.1
    · exact ih h.2 ha' hb' e
/-- Where each path is there once, there is one sorted list. -/
theorem sort_one {l d : List Cmd} (hn : (l.map Cmd.s).Nodup) (hp : d.Perm l) (hs : SortedC d) : d = sortR l :=
  List.Perm.eq_of_pairwise (le := fun a b => befC b a = false) (fun a b ha hb h k => nodup_inj hn (hp.mem_iff.1 ha) ((sortR_perm l).mem_iff.1 hb) (befC_conn k h)) hs (sortR_sorted l) (hp.trans (sortR_perm l).symm)
end Go.Proofs.YthcfjiapmigjiaaDoor
