/- Trees of nodes, as plain lists: what a path holds, which lists are trees, what putting, summing and comparing give. -/
import Derived.Test.YthcfjiapmigjiaaDoorOpenK
import Derived.Test.YthcfjiapmigjiaaDoorContent
import Derived.Test.YthcfjiapmigjiaaDoorPathL
import Derived.Test.YthcfjiapmigjiaaDoorPath3
import Derived.Test.YthcfjiapmigjiaaDoorBL
namespace Go.Proofs.YthcfjiapmigjiaaDoor
set_option linter.unusedVariables false

def Nod.s (n : Nod) : List UInt8 := n.p.data.toList
/-- Where a path stands first. -/
def posN (l : List Nod) (s : List UInt8) : Option Nat := l.findIdx? fun n => decide (n.s = s)
def posI (l : List Nod) (s : List UInt8) : Int := match posN l s with
  | some k => (k : Int)
  | none => -1
/-- What a path holds. -/
def getN (l : List Nod) (s : List UInt8) : Int × Int := if s = [47] then (1, 0) else match l.find? (fun n => decide (n.s = s)) with
  | some n => (n.x, n.y)
  | none => (0, 0)
theorem getN_root (l : List Nod) : getN l [47] = (1, 0) := rfl
theorem posN_none {l : List Nod} {s : List UInt8} (h : ∀ n ∈ l, n.s ≠ s) : posN l s = none := by
  unfold posN
  rw [List.findIdx?_eq_none_iff]
  intro n hn
  simpa using h n hn
theorem posN_some {l : List Nod} {s : List UInt8} {k : Nat} (hk : k < l.length) (h : l[k].s = s) (hj : ∀ j (hjk : j < k), (l[j]'(by omega)).s ≠ s) : posN l s = some k := by
  unfold posN
  rw [List.findIdx?_eq_some_iff_getElem]
  exact ⟨hk, by simpa using h, fun j hjk => by simpa using hj j hjk⟩
theorem find_of_pos {l : List Nod} {s : List UInt8} : l.find? (fun n => decide (n.s = s)) = (posN l s).bind fun k => l[k]? := by
  unfold posN
  induction l with
  | nil => rfl
  | cons x l ih =>
    rw [List.find?_cons, List.findIdx?_cons]
    by_cases h : x.s = s
    · simp [h]
    · rw [decide_eq_false h]
      dsimp only
      rw [ih]
      cases List.findIdx? (fun n => decide (n.s = s)) l <;> simp
theorem getN_pos {l : List Nod} {s : List UInt8} (hs : s ≠ [47]) {k : Nat} (h : posN l s = some k) {n : Nod} (hn : l[k]? = some n) : getN l s = (n.x, n.y) := by
  unfold getN
  rw [if_neg hs, find_of_pos, h]
  simp [hn]
theorem getN_none {l : List Nod} {s : List UInt8} (hs : s ≠ [47]) (h : posN l s = none) : getN l s = (0, 0) := by
  unfold getN
  rw [if_neg hs, find_of_pos, h]
  rfl
/-- No node ahead of k has the path. -/
def NoneN (l : List Nod) (k : Nat) (s : List UInt8) : Prop := ∀ j, j < k → ∀ p, l[j]? = some p → p.s ≠ s
theorem NoneN.zero (l : List Nod) (s : List UInt8) : NoneN l 0 s := fun j hj => by omega
theorem NoneN.next {l : List Nod} {k : Nat} {s : List UInt8} (h : NoneN l k s) {q : Nod} (hq : l[k]? = some q) (hn : q.s ≠ s) : NoneN l (k + 1) s := by
  intro j hj p hp
  by_cases hjk : j = k
  · subst hjk; rw [hq] at hp; injection hp with hp; subst hp; exact hn
  · exact h j (by omega) p hp
theorem NoneN.pos {l : List Nod} {k : Nat} {s : List UInt8} (h : NoneN l k s) {q : Nod} (hq : l[k]? = some q) (hs : q.s = s) : posN l s = some k := by
  obtain ⟨hk, rfl⟩ := List.getElem?_eq_some_iff.1 hq
  exact posN_some hk hs fun j hjk => h j hjk _ (List.getElem?_eq_getElem _)
theorem NoneN.all {l : List Nod} {s : List UInt8} {n : Nat} (hn : l.length = n) (h : NoneN l n s) : posN l s = none :=
  posN_none fun n hn' => by
    obtain ⟨j, hj, rfl⟩ := List.getElem_of_mem hn'
    exact h j (by omega) _ (List.getElem?_eq_getElem hj)
theorem posI_some {l : List Nod} {s : List UInt8} {k : Nat} (h : posN l s = some k) : posI l s = k := by unfold posI; rw [h]
theorem posI_none {l : List Nod} {s : List UInt8} (h : posN l s = none) : posI l s = -1 := by unfold posI; rw [h]
theorem posN_get {l : List Nod} {s : List UInt8} {k : Nat} (h : posN l s = some k) : ∃ n, l[k]? = some n ∧ n.s = s := by
  unfold posN at h
  rw [List.findIdx?_eq_some_iff_getElem] at h
  obtain ⟨hk, h1, _⟩ := h
  exact ⟨l[k], List.getElem?_eq_getElem hk, by simpa using h1⟩

/-- A node is good in itself. -/
def okNod (n : Nod) : Prop := 0 < depthL n.s ∧ okC n.x n.y = true ∧ n.x ≠ 0
/-- A node is good at its place in a list. -/
def okAt (l : List Nod) (k : Nat) : Prop := ∀ n, l[k]? = some n → okNod n ∧ (0 < k → ∀ m, l[k - 1]? = some m → Op.bytesLess m.s n.s = true)
def dirAt (l : List Nod) (k : Nat) : Prop := ∀ n, l[k]? = some n → (getN l (parentL n.s)).1 = 1
/-- The list is a tree. -/
def TreeP (l : List Nod) : Prop := (∀ k, k < l.length → okAt l k) ∧ (∀ k, k < l.length → dirAt l k) ∧ l.length ≤ 10
theorem TreeP.ok {l : List Nod} (h : TreeP l) {n : Nod} (hn : n ∈ l) : okNod n := by
  obtain ⟨k, hk, rfl⟩ := List.getElem_of_mem hn
  exact (h.1 k hk _ (List.getElem?_eq_getElem hk)).1
theorem okNod.path {n : Nod} (h : okNod n) : pathB n.s = true ∧ n.s ≠ [47] := depth_pos.1 h.1
theorem okNod.size {n : Nod} (h : okNod n) : n.p.size ≤ 8 := by
  have := (path_len h.path.1).2.1
  rw [Lib.size_eq]; exact this
theorem TreeP.sizes {l : List Nod} (h : TreeP l) : ∀ q ∈ l, q.p.size ≤ 1048576 := fun q hq => by have := (h.ok hq).size; omega
theorem okC_bd {x y : Int} (h : okC x y = true) : 0 ≤ x ∧ x ≤ 2 ∧ 0 ≤ y ∧ y ≤ 99 := by
  unfold okC at h
  rw [decide_eq_true_eq] at h
  omega
theorem TreeP.posRoot {l : List Nod} (h : TreeP l) : posN l [47] = none := posN_none fun n hn => (h.ok hn).path.2
/-- In a tree a path holds something where it stands. -/
theorem TreeP.get_pos {l : List Nod} (h : TreeP l) {s : List UInt8} (hs : s ≠ [47]) : (getN l s).1 ≠ 0 ↔ posN l s ≠ none := by
  cases hp : posN l s with
  | none => rw [getN_none hs hp]; simp
  | some k =>
    obtain ⟨n, hn, _⟩ := posN_get hp
    rw [getN_pos hs hp hn]
    simp
    exact (h.ok (List.mem_of_getElem? hn)).2.2
theorem TreeP.get_bd {l : List Nod} (h : TreeP l) (s : List UInt8) : okC (getN l s).1 (getN l s).2 = true := by
  by_cases hs : s = [47]
  · subst hs; rw [getN_root]; rfl
  · cases hp : posN l s with
    | none => rw [getN_none hs hp]; rfl
    | some k =>
      obtain ⟨n, hn, _⟩ := posN_get hp
      rw [getN_pos hs hp hn]
      exact (h.ok (List.mem_of_getElem? hn)).2.1
theorem TreeP.at_path {l : List Nod} (h : TreeP l) {s : List UInt8} (hs : s ≠ [47]) (hg : (getN l s).1 ≠ 0) : pathB s = true := by
  have := (h.get_pos hs).1 hg
  cases hp : posN l s with
  | none => exact absurd hp this
  | some k =>
    obtain ⟨n, hn, rfl⟩ := posN_get hp
    exact (h.ok (List.mem_of_getElem? hn)).path.1

/-- The paths ascend. -/
def SortN (l : List Nod) : Prop := l.Pairwise fun a b => Op.bytesLess a.s b.s = true
theorem sort_adj : ∀ l : List Nod, (∀ k (h : k + 1 < l.length), Op.bytesLess l[k].s l[k + 1].s = true) → SortN l
  | [], _ => List.Pairwise.nil
  | [x], _ => by simp [SortN]
  | x :: y :: l, h => by
    have ih := sort_adj (y :: l) fun k hk => h (k + 1) (by simpa using hk)
    refine List.pairwise_cons.2 ⟨fun b hb => ?_, ih⟩
    rcases List.mem_cons.1 hb with rfl | hb
    · exact h 0 (by simp)
    · exact bl_trans _ _ _ (h 0 (by simp)) ((List.pairwise_cons.1 ih).1 b hb)
theorem TreeP.sorted {l : List Nod} (h : TreeP l) : SortN l := sort_adj l fun k hk =>
  (h.1 (k + 1) hk _ (List.getElem?_eq_getElem hk)).2 (by omega) _ (List.getElem?_eq_getElem (by omega))

/-- A list without a path; with a node put in; with a content at a path. -/
def delL (l : List Nod) (s : List UInt8) : List Nod := l.filter fun n => !decide (n.s = s)
def insL (l : List Nod) (q : Nod) : List Nod := l.takeWhile (fun n => Op.bytesLess n.s q.s) ++ q :: l.dropWhile (fun n => Op.bytesLess n.s q.s)
def putL (l : List Nod) (q : Nod) : List Nod := if q.x = 0 then delL l q.s else insL (delL l q.s) q
/-- The reference's loop. -/
def goP (q : Nod) : Bool → List Nod → List Nod
  | d, [] => if d then [] else [q]
  | d, n :: l => if !d && Op.bytesLess q.s n.s then q :: n :: goP q true l
    else if n.s = q.s then (if d then goP q true l else q :: goP q true l)
    else n :: goP q d l
theorem goP_true (q : Nod) : ∀ l : List Nod, goP q true l = delL l q.s
  | [] => rfl
  | n :: l => by
    unfold goP delL
    rw [List.filter_cons]
    by_cases h : n.s = q.s
    · simp only [h, decide_true]; simp; exact goP_true q l
    · simp only [h, decide_false]; simp; exact goP_true q l
theorem tw_none {p : Nod → Bool} {l : List Nod} (h : ∀ n ∈ l, p n = false) : l.takeWhile p = [] ∧ l.dropWhile p = l := by
  cases l with
  | nil => exact ⟨rfl, rfl⟩
  | cons n l => rw [List.takeWhile_cons, List.dropWhile_cons, h n (by simp)]; exact ⟨rfl, rfl⟩
theorem goP_false (q : Nod) : ∀ l : List Nod, SortN l → goP q false l = insL (delL l q.s) q
  | [], _ => rfl
  | n :: l, hs => by
    obtain ⟨h1, h2⟩ := List.pairwise_cons.1 hs
    unfold goP
    by_cases hq : Op.bytesLess q.s n.s = true
    · have hne : n.s ≠ q.s := fun e => by rw [e, bl_irr] at hq; cases hq
      rw [if_pos (by rw [hq]; rfl), goP_true]
      have e : delL (n :: l) q.s = n :: delL l q.s := by unfold delL; rw [List.filter_cons, decide_eq_false hne]; rfl
      rw [e]
      unfold insL
      have hb : Op.bytesLess n.s q.s = false := bl_asym hq
      rw [List.takeWhile_cons, List.dropWhile_cons, hb]; rfl
    · have hq' : Op.bytesLess q.s n.s = false := by simpa using hq
      rw [if_neg (by rw [hq']; simp)]
      by_cases hne : n.s = q.s
      · rw [if_pos hne, if_neg (by simp), goP_true]
        have e : delL (n :: l) q.s = delL l q.s := by unfold delL; rw [List.filter_cons, decide_eq_true hne]; rfl
        rw [e]
        unfold insL
        have := tw_none (p := fun m => Op.bytesLess m.s q.s) (l := delL l q.s) fun m hm => by
          have hm' : m ∈ l := (List.mem_filter.1 hm).1
          have := h1 m hm'
          rw [hne] at this
          exact bl_asym this
        rw [this.1, this.2]; rfl
      · rw [if_neg hne, goP_false q l h2]
        have e : delL (n :: l) q.s = n :: delL l q.s := by unfold delL; rw [List.filter_cons, decide_eq_false hne]; rfl
        rw [e]
        unfold insL
        have hb : Op.bytesLess n.s q.s = true := by rw [bl_total q.s n.s (Ne.symm hne), hq']; rfl
        rw [List.takeWhile_cons, List.dropWhile_cons, hb]; rfl
theorem goP_put {l : List Nod} (hs : SortN l) (q : Nod) : goP q (decide (q.x = 0)) l = putL l q := by
  unfold putL
  by_cases h : q.x = 0
  · rw [decide_eq_true h, if_pos h, goP_true]
  · rw [decide_eq_false h, if_neg h, goP_false q l hs]
theorem tw_at {p : Nod → Bool} : ∀ (l : List Nod) (k : Nat), k ≤ l.length → (∀ j n, j < k → l[j]? = some n → p n = true) → (∀ n, l[k]? = some n → p n = false) → l.takeWhile p = l.take k ∧ l.dropWhile p = l.drop k
  | [], k, _, _, _ => by simp
  | n :: l, 0, _, _, h => by
    rw [List.takeWhile_cons, List.dropWhile_cons, h n rfl]; exact ⟨rfl, rfl⟩
  | n :: l, k + 1, hk, h, h2 => by
    have := tw_at l k (by simpa using hk) (fun j m hj hm => h (j + 1) m (by omega) (by simpa using hm)) fun m hm => h2 m (by simpa using hm)
    rw [List.takeWhile_cons, List.dropWhile_cons, h 0 n (by omega) rfl]
    simp [this.1, this.2]
theorem ins_at {l : List Nod} {q : Nod} {k : Nat} (hk : k ≤ l.length) (h : ∀ j n, j < k → l[j]? = some n → Op.bytesLess n.s q.s = true) (h2 : ∀ n, l[k]? = some n → Op.bytesLess n.s q.s = false) : insL l q = l.take k ++ q :: l.drop k := by
  unfold insL
  obtain ⟨e1, e2⟩ := tw_at (p := fun n => Op.bytesLess n.s q.s) l k hk h h2
  rw [e1, e2]
theorem del_len (l : List Nod) (s : List UInt8) : (delL l s).length ≤ l.length := List.length_filter_le _ _
theorem put_len (l : List Nod) (q : Nod) : (putL l q).length ≤ l.length + 1 := by
  unfold putL
  split
  · have := del_len l q.s; omega
  · unfold insL
    have := del_len l q.s
    have h2 := congrArg List.length (List.takeWhile_append_dropWhile (p := fun n => Op.bytesLess n.s q.s) (l := delL l q.s))
    rw [List.length_append] at h2
    rw [List.length_append, List.length_cons]; omega
theorem put_mem {l : List Nod} {q n : Nod} (h : n ∈ putL l q) : n = q ∨ n ∈ l := by
  unfold putL at h
  split at h
  · exact .inr (List.mem_filter.1 h).1
  · unfold insL at h
    rcases List.mem_append.1 h with h | h
    · exact .inr (List.mem_filter.1 ((List.takeWhile_sublist _).mem h)).1
    · rcases List.mem_cons.1 h with rfl | h
      · exact .inl rfl
      · exact .inr (List.mem_filter.1 ((List.dropWhile_sublist _).mem h)).1

/-- The sums. -/
def chS (s : List UInt8) (k : Nat) : List UInt8 := (if s = [47] then [] else s) ++ [47, UInt8.ofNat (97 + k)]
def baseS (l : List Nod) (s : List UInt8) : Int := 1 + 200 * (getN l s).1 + (getN l s).2
def foldS (rec : List UInt8 → Int) (l : List Nod) (s : List UInt8) : Nat → Int
  | 0 => baseS l s
  | k + 1 => if (getN l (chS s k)).1 = 0 then foldS rec l s k else (31 * foldS rec l s k + 7 * k + 100 * rec (chS s k) + 3) % 9973
def sumN : Nat → List Nod → List UInt8 → Int
  | 0, l, s => baseS l s
  | f + 1, l, s => if (getN l s).1 = 1 then foldS (sumN f l) l s 4 else baseS l s
theorem base_bd {l : List Nod} (h : TreeP l) (s : List UInt8) : 0 ≤ baseS l s ∧ baseS l s ≤ 500 := by
  have := okC_bd (h.get_bd s)
  unfold baseS; omega
theorem fold_bd {l : List Nod} (h : TreeP l) (rec : List UInt8 → Int) (s : List UInt8) : ∀ k, 0 ≤ foldS rec l s k ∧ foldS rec l s k ≤ 9972
  | 0 => by have := base_bd h s; unfold foldS; omega
  | k + 1 => by
    unfold foldS
    split
    · exact fold_bd h rec s k
    · omega
theorem sum_bd {l : List Nod} (h : TreeP l) (f : Nat) (s : List UInt8) : 0 ≤ sumN f l s ∧ sumN f l s ≤ 9972 := by
  cases f with
  | zero => have := base_bd h s; unfold sumN; omega
  | succ f =>
    unfold sumN
    split
    · exact fold_bd h _ s 4
    · have := base_bd h s; omega
theorem chS_ne (s : List UInt8) (k : Nat) : chS s k ≠ [47] := by
  intro h
  have := congrArg List.length h
  unfold chS at this
  rw [List.length_append] at this
  simp at this
theorem chS_len (s : List UInt8) (k : Nat) : (chS s k).length / 2 = s.length / 2 + 1 := by
  unfold chS
  by_cases h : s = [47]
  · subst h; simp
  · rw [if_neg h, List.length_append]
    show (s.length + 2) / 2 = _
    omega

/-- The paths of two trees, each once, in order. -/
def mergeP : List Nod → List Nod → List ByteArray
  | [], [] => []
  | a :: xs, [] => a.p :: mergeP xs []
  | [], b :: bs => b.p :: mergeP [] bs
  | a :: xs, b :: bs => if Op.bytesLess a.s b.s then a.p :: mergeP xs (b :: bs) else if Op.bytesLess b.s a.s then b.p :: mergeP (a :: xs) bs else a.p :: mergeP xs bs
termination_by a b => a.length + b.length
theorem merge_len : ∀ (n : Nat) (a b : List Nod), a.length + b.length ≤ n → (mergeP a b).length ≤ n
  | n, [], [], _ => by rw [mergeP]; simp
  | 0, _ :: _, _, h => by simp at h
  | 0, _, _ :: _, h => by simp at h
  | n + 1, a :: xs, [], h => by rw [mergeP]; have := merge_len n xs [] (by simp at h ⊢; omega); simp; omega
  | n + 1, [], b :: bs, h => by rw [mergeP]; have := merge_len n [] bs (by simp at h ⊢; omega); simp; omega
  | n + 1, a :: xs, b :: bs, h => by
    rw [mergeP]
    split
    · have := merge_len n xs (b :: bs) (by simp at h ⊢; omega); simp; omega
    · split
      · have := merge_len n (a :: xs) bs (by simp at h ⊢; omega); simp; omega
      · have := merge_len n xs bs (by simp at h ⊢; omega); simp; omega
def chgB (a b : List Nod) (p : ByteArray) : Bool := !decide (getN a p.data.toList = getN b p.data.toList)
def chgL (a b : List Nod) : List ByteArray := (mergeP a b).filter (chgB a b)

/-- What lies at a path or under it. -/
def selB (s : List UInt8) (n : Nod) : Bool := decide (n.s = s) || underL s n.s
def remL (l : List Nod) (s : List UInt8) : List Cmd := (l.reverse.filter (selB s)).map fun n => ⟨n.p, n.x, n.y, 0, 0⟩
end Go.Proofs.YthcfjiapmigjiaaDoor
