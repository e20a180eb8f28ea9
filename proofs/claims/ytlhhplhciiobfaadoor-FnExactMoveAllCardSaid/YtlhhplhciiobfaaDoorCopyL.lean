/- The commands that copy, remove and move what lies at a path, as plain lists. -/
import Derived.Test.YtlhhplhciiobfaaDoorAppL
namespace Go.Proofs.YtlhhplhciiobfaaDoor
set_option linter.unusedVariables false

def copyK (f t : ByteArray) (n : Nod) : Cmd := ⟨t ++ n.p.extract f.size n.p.size, 0, 0, n.x, n.y⟩
def copyL (l : List Nod) (f t : ByteArray) : List Cmd := (l.filter (selB f.data.toList)).map (copyK f t)
theorem copyL_snoc {l : List Nod} {k : Nat} (hk : k < l.length) (f t : ByteArray) : copyL (l.take (k + 1)) f t = copyL (l.take k) f t ++ (if selB f.data.toList l[k] then [copyK f t l[k]] else []) := by
  unfold copyL
  rw [take_snoc' l k hk, List.filter_append, List.map_append]
  congr 1
  cases h : selB f.data.toList l[k] <;> simp [h]
theorem copyL_len (l : List Nod) (f t : ByteArray) : (copyL l f t).length ≤ l.length := by
  unfold copyL; rw [List.length_map]; exact List.length_filter_le _ _
theorem copyL_size {l : List Nod} {f t : ByteArray} {m : Nat} (h : ∀ q ∈ l, q.p.size ≤ m) : ∀ q ∈ copyL l f t, q.p.size ≤ t.size + m := fun q hq => by
  unfold copyL at hq
  obtain ⟨n, hn, rfl⟩ := List.mem_map.1 hq
  have h1 := h n (List.mem_filter.1 hn).1
  show (t ++ n.p.extract f.size n.p.size).size ≤ _
  rw [ByteArray.size_append]
  simp
  omega
theorem sel_len {f n : ByteArray} {x y : Int} (hf : f.data.toList ≠ [47]) (h : selB f.data.toList ⟨n, x, y⟩ = true) : f.size ≤ n.size := by
  unfold selB at h
  rw [Bool.or_eq_true, decide_eq_true_eq] at h
  rw [Lib.size_eq, Lib.size_eq]
  rcases h with h | h
  · have h' : n.data.toList = f.data.toList := h
    rw [h']; exact Nat.le_refl _
  · unfold underL at h
    rw [Bool.or_eq_true, Bool.and_eq_true, Bool.and_eq_true, decide_eq_true_eq, decide_eq_true_eq] at h
    have hn : (Nod.s ⟨n, x, y⟩) = n.data.toList := rfl
    rcases h with ⟨h1, h2⟩ | ⟨h1, _⟩
    · exact absurd h1 hf
    · rw [hn] at h1; omega
/-- What CopyAll answers. -/
def CopyG (l : List Nod) (f t : ByteArray) : Prop := TreeP l ∧ 0 < depthL f.data.toList ∧ 0 < depthL t.data.toList ∧ (getN l f.data.toList).1 ≠ 0 ∧ f.data.toList ≠ t.data.toList ∧ underL f.data.toList t.data.toList = false ∧ FitL l (copyL l f t)
def CopyR (l : List Nod) (f t : ByteArray) (ys : List Cmd) (b : Bool) : Prop := CopyG l f t ∧ b = true ∧ ys = copyL l f t ∨ ¬ CopyG l f t ∧ b = false ∧ ys = []
theorem CopyR.same {l : List Nod} {f t : ByteArray} {a b : List Cmd} {c d : Bool} (h : CopyR l f t a c) (k : CopyR l f t b d) : a = b ∧ c = d := by
  rcases h with ⟨h, rfl, rfl⟩ | ⟨h, rfl, rfl⟩ <;> rcases k with ⟨k, rfl, rfl⟩ | ⟨k, rfl, rfl⟩
  · exact ⟨rfl, rfl⟩
  · exact absurd h k
  · exact absurd k h
  · exact ⟨rfl, rfl⟩
theorem CopyR.len {l : List Nod} {f t : ByteArray} {a : List Cmd} {c : Bool} (h : CopyR l f t a c) : a.length ≤ l.length := by
  rcases h with ⟨_, _, rfl⟩ | ⟨_, _, rfl⟩
  · exact copyL_len l f t
  · exact Nat.zero_le _
theorem remL_len (l : List Nod) (s : List UInt8) : (remL l s).length ≤ l.length := by
  unfold remL
  rw [List.length_map]
  have := List.length_filter_le (selB s) l.reverse
  rwa [List.length_reverse] at this
/-- What RemoveAll answers. -/
def RemG (l : List Nod) (s : List UInt8) : Prop := TreeP l ∧ 0 < depthL s ∧ (getN l s).1 ≠ 0
def RemR (l : List Nod) (s : List UInt8) (ys : List Cmd) (b : Bool) : Prop := RemG l s ∧ b = true ∧ ys = remL l s ∨ ¬ RemG l s ∧ b = false ∧ ys = []
theorem RemR.same {l : List Nod} {s : List UInt8} {a b : List Cmd} {c d : Bool} (h : RemR l s a c) (k : RemR l s b d) : a = b ∧ c = d := by
  rcases h with ⟨h, rfl, rfl⟩ | ⟨h, rfl, rfl⟩ <;> rcases k with ⟨k, rfl, rfl⟩ | ⟨k, rfl, rfl⟩
  · exact ⟨rfl, rfl⟩
  · exact absurd h k
  · exact absurd k h
  · exact ⟨rfl, rfl⟩
theorem RemR.len {l : List Nod} {s : List UInt8} {a : List Cmd} {c : Bool} (h : RemR l s a c) : a.length ≤ l.length := by
  rcases h with ⟨_, _, rfl⟩ | ⟨_, _, rfl⟩
  · exact remL_len l s
  · exact Nat.zero_le _
/-- What MoveAll answers. -/
def MoveR (l : List Nod) (f t : ByteArray) (ys : List Cmd) (b : Bool) : Prop := CopyG l f t ∧ b = true ∧ ys = copyL l f t ++ remL l f.data.toList ∨ ¬ CopyG l f t ∧ b = false ∧ ys = []
theorem MoveR.same {l : List Nod} {f t : ByteArray} {a b : List Cmd} {c d : Bool} (h : MoveR l f t a c) (k : MoveR l f t b d) : a = b ∧ c = d := by
  rcases h with ⟨h, rfl, rfl⟩ | ⟨h, rfl, rfl⟩ <;> rcases k with ⟨k, rfl, rfl⟩ | ⟨k, rfl, rfl⟩
  · exact ⟨rfl, rfl⟩
  · exact absurd h k
  · exact absurd k h
  · exact ⟨rfl, rfl⟩
theorem MoveR.len {l : List Nod} {f t : ByteArray} {a : List Cmd} {c : Bool} (h : MoveR l f t a c) : a.length ≤ 2 * l.length := by
  rcases h with ⟨_, _, rfl⟩ | ⟨_, _, rfl⟩
  · rw [List.length_append]
    have h1 := copyL_len l f t
    have h2 := remL_len l f.data.toList
    omega
  · exact Nat.zero_le _
end Go.Proofs.YtlhhplhciiobfaaDoor
