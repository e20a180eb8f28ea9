/- The canonical log from one tree to another one: the plain law. No program in sight. -/
import Derived.Test.YthcfjiapmigjiaaDoorCanonL
import Derived.Test.YthcfjiapmigjiaaDoorTree
namespace Go.Proofs.YthcfjiapmigjiaaDoor
set_option linter.unusedVariables false
set_option linter.unusedSimpArgs false

theorem merge_mem : ∀ (n : Nat) (a b : List Nod), a.length + b.length ≤ n → ∀ p ∈ mergeP a b, (∃ q ∈ a, q.s = p.data.toList) ∨ (∃ q ∈ b, q.s = p.data.toList)
  | n, [], [], _, p, hp => by rw [mergeP] at hp; cases hp
  | 0, _ :: _, _, h, _, _ => by simp at h
  | 0, [], _ :: _, h, _, _ => by simp at h
  | n + 1, a :: xs, [], h, p, hp => by
    rw [mergeP] at hp
    rcases List.mem_cons.1 hp with rfl | hp
    · exact .inl ⟨a, by simp, rfl⟩
    · rcases merge_mem n xs [] (by simp at h ⊢; omega) p hp with ⟨q, hq, e⟩ | ⟨q, hq, e⟩
      · exact .inl ⟨q, by simp [hq], e⟩
      · cases hq
  | n + 1, [], b :: bs, h, p, hp => by
    rw [mergeP] at hp
    rcases List.mem_cons.1 hp with rfl | hp
    · exact .inr ⟨b, by simp, rfl⟩
    · rcases merge_mem n [] bs (by simp at h ⊢; omega) p hp with ⟨q, hq, e⟩ | ⟨q, hq, e⟩
      · cases hq
      · exact .inr ⟨q, by simp [hq], e⟩
  | n + 1, a :: xs, b :: bs, h, p, hp => by
    rw [mergeP] at hp
    split at hp
    · rcases List.mem_cons.1 hp with rfl | hp
      · exact .inl ⟨a, by simp, rfl⟩
      · rcases merge_mem n xs (b :: bs) (by simp at h ⊢; omega) p hp with ⟨q, hq, e⟩ | ⟨q, hq, e⟩
        · exact .inl ⟨q, by simp [hq], e⟩
        · exact .inr ⟨q, hq, e⟩
    · split at hp
      · rcases List.mem_cons.1 hp with rfl | hp
        · exact .inr ⟨b, by simp, rfl⟩
        · rcases merge_mem n (a :: xs) bs (by simp at h ⊢; omega) p hp with ⟨q, hq, e⟩ | ⟨q, hq, e⟩
          · exact .inl ⟨q, hq, e⟩
          · exact .inr ⟨q, by simp [hq], e⟩
      · rcases List.mem_cons.1 hp with rfl | hp
        · exact .inl ⟨a, by simp, rfl⟩
        · rcases merge_mem n xs bs (by simp at h ⊢; omega) p hp with ⟨q, hq, e⟩ | ⟨q, hq, e⟩
          · exact .inl ⟨q, by simp [hq], e⟩
          · exact .inr ⟨q, by simp [hq], e⟩
/-- In order, and so each once. -/
def IncP (ps : List ByteArray) : Prop := ps.Pairwise fun p q => Op.bytesLess p.data.toList q.data.toList = true
theorem merge_inc : ∀ (n : Nat) (a b : List Nod), a.length + b.length ≤ n → SortN a → SortN b → IncP (mergeP a b)
  | n, [], [], _, _, _ => by rw [mergeP]; exact List.Pairwise.nil
  | 0, _ :: _, _, h, _, _ => by simp at h
  | 0, [], _ :: _, h, _, _ => by simp at h
  | n + 1, a :: xs, [], h, ha, hb => by
    have ha' := List.pairwise_cons.1 ha
    rw [mergeP]
    refine List.pairwise_cons.2 ⟨fun p hp => ?_, merge_inc n xs [] (by simp at h ⊢; omega) ha'.2 hb⟩
    rcases merge_mem n xs [] (by simp at h ⊢; omega) p hp with ⟨q, hq, e⟩ | ⟨q, hq, e⟩
    · rw [← e]; exact ha'.1 q hq
    · cases hq
  | n + 1, [], b :: bs, h, ha, hb => by
    have hb' := List.pairwise_cons.1 hb
    rw [mergeP]
    refine List.pairwise_cons.2 ⟨fun p hp => ?_, merge_inc n [] bs (by simp at h ⊢; omega) ha hb'.2⟩
    rcases merge_mem n [] bs (by simp at h ⊢; omega) p hp with ⟨q, hq, e⟩ | ⟨q, hq, e⟩
    · cases hq
    · rw [← e]; exact hb'.1 q hq
  | n + 1, a :: xs, b :: bs, h, ha, hb => by
    have ha' := List.pairwise_cons.1 ha
    have hb' := List.pairwise_cons.1 hb
    rw [mergeP]
    split
    · next hab =>
      refine List.pairwise_cons.2 ⟨fun p hp => ?_, merge_inc n xs (b :: bs) (by simp at h ⊢; omega) ha'.2 hb⟩
      rcases merge_mem n xs (b :: bs) (by simp at h ⊢; omega) p hp with ⟨q, hq, e⟩ | ⟨q, hq, e⟩
      · rw [← e]; exact ha'.1 q hq
      · rw [← e]
        rcases List.mem_cons.1 hq with rfl | hq
        · exact hab
        · exact bl_trans _ _ _ hab (hb'.1 q hq)
    · next hab =>
      split
      · next hba =>
        refine List.pairwise_cons.2 ⟨fun p hp => ?_, merge_inc n (a :: xs) bs (by simp at h ⊢; omega) ha hb'.2⟩
        rcases merge_mem n (a :: xs) bs (by simp at h ⊢; omega) p hp with ⟨q, hq, e⟩ | ⟨q, hq, e⟩
        · rw [← e]
          rcases List.mem_cons.1 hq with rfl | hq
          · exact hba
          · exact bl_trans _ _ _ hba (ha'.1 q hq)
        · rw [← e]; exact hb'.1 q hq
      · next hba =>
        have hs : a.s = b.s := bl_conn (by simpa using hab) (by simpa using hba)
        refine List.pairwise_cons.2 ⟨fun p hp => ?_, merge_inc n xs bs (by simp at h ⊢; omega) ha'.2 hb'.2⟩
        rcases merge_mem n xs bs (by simp at h ⊢; omega) p hp with ⟨q, hq, e⟩ | ⟨q, hq, e⟩
        · rw [← e]; exact ha'.1 q hq
        · rw [← e]; show Op.bytesLess a.s q.s = true; rw [hs]; exact hb'.1 q hq
def difK (l ks : List Nod) (p : ByteArray) : Cmd := ⟨p, (getN l p.data.toList).1, (getN l p.data.toList).2, (getN ks p.data.toList).1, (getN ks p.data.toList).2⟩
def difL (l ks : List Nod) : List Cmd := (chgL l ks).map (difK l ks)
theorem difK_of {l ks : List Nod} {p : ByteArray} {x y z u : Int} (h : getN l p.data.toList = (x, y)) (k : getN ks p.data.toList = (z, u)) : difK l ks p = ⟨p, x, y, z, u⟩ := by unfold difK; rw [h, k]
theorem dif_nodup {l ks : List Nod} (hl : TreeP l) (hk : TreeP ks) : ((difL l ks).map Cmd.s).Nodup := by
  have h1 : IncP (chgL l ks) := (merge_inc _ l ks (Nat.le_refl _) hl.sorted hk.sorted).sublist List.filter_sublist
  unfold difL
  rw [List.map_map]
  unfold List.Nodup
  rw [List.pairwise_map]
  exact h1.imp fun h => bl_ne h
def DifR (l ks : List Nod) (m : List Cmd) (b : Bool) : Prop := (TreeP l ∧ TreeP ks) ∧ m = sortR (difL l ks) ∧ b = true ∨ ¬ (TreeP l ∧ TreeP ks) ∧ m = [] ∧ b = false
theorem DifR.same {l ks : List Nod} {a b : List Cmd} {c d : Bool} (h : DifR l ks a c) (k : DifR l ks b d) : a = b ∧ c = d := by
  rcases h with ⟨h, rfl, rfl⟩ | ⟨h, rfl, rfl⟩ <;> rcases k with ⟨k, rfl, rfl⟩ | ⟨k, rfl, rfl⟩
  · exact ⟨rfl, rfl⟩
  · exact absurd h k
  · exact absurd k h
  · exact ⟨rfl, rfl⟩
theorem DifR.len20 {l ks : List Nod} {a : List Cmd} {c : Bool} (h : DifR l ks a c) : a.length ≤ 20 := by
  rcases h with ⟨⟨h1, h2⟩, rfl, _⟩ | ⟨_, rfl, _⟩
  · rw [sortR_len, difL, List.length_map]
    exact Nat.le_trans (List.length_filter_le _ _) (Nat.le_trans (merge_len _ l ks (Nat.le_refl _)) (by have := h1.2.2; have := h2.2.2; omega))
  · exact Nat.zero_le _
end Go.Proofs.YthcfjiapmigjiaaDoor
