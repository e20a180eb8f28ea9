/- Two neighbours of a log are exchanged: plain laws; a log is cloned. -/
import Derived.Test.YtmhmfdikncgdgaaDoorOrd
import Derived.Test.YtmhmfdikncgdgaaDoorMarkK
namespace Go.Proofs.YtmhmfdikncgdgaaDoor
open Go.RowKit
set_option linter.unusedVariables false
set_option linter.unusedSimpArgs false
set_option maxRecDepth 20000

/-- The log with the commands k and k + 1 exchanged. -/
def swapL (l : List Cmd) (k : Nat) : List Cmd := match l[k]?, l[k + 1]? with
  | some a, some b => (l.set k b).set (k + 1) a
  | _, _ => l
theorem split_two {α : Type} (l : List α) (k : Nat) (h : k + 1 < l.length) : ∃ u a b v, l = u ++ a :: b :: v ∧ u.length = k ∧ l[k]? = some a ∧ l[k + 1]? = some b := by
  refine ⟨l.take k, l[k], l[k + 1], l.drop (k + 2), ?_, by rw [List.length_take]; omega, List.getElem?_eq_getElem _, List.getElem?_eq_getElem _⟩
  rw [← List.drop_eq_getElem_cons, ← List.drop_eq_getElem_cons, List.take_append_drop]
theorem swapL_split {u v : List Cmd} {a b : Cmd} : swapL (u ++ a :: b :: v) u.length = u ++ b :: a :: v := by
  unfold swapL
  have h1 : (u ++ a :: b :: v)[u.length]? = some a := by simp
  have h2 : (u ++ a :: b :: v)[u.length + 1]? = some b := by rw [List.getElem?_append_right (by omega)]; simp
  rw [h1, h2]
  simp only
  rw [List.set_append_right _ _ (Nat.le_refl _), List.set_append_right _ _ (by omega)]
  simp
theorem swap_perm (l : List Cmd) (k : Nat) (h : k + 1 < l.length) : (swapL l k).Perm l := by
  obtain ⟨u, a, b, v, rfl, rfl, _, _⟩ := split_two l k h
  rw [swapL_split]
  exact List.Perm.append_left u (List.Perm.swap a b v)
theorem once_iff (l : List Cmd) : OnceP l l.length ↔ (l.map (·.p.data.toList)).Nodup := by
  unfold List.Nodup
  rw [List.pairwise_map, List.pairwise_iff_getElem]
  constructor
  · intro h i j hi hj hij e
    exact h j hj l[j] (List.getElem?_eq_getElem hj) i hij l[i] (List.getElem?_eq_getElem hi) e
  · intro h j hj q hq i hij p hp e
    obtain ⟨hj', rfl⟩ := List.getElem?_eq_some_iff.1 hq
    obtain ⟨hi', rfl⟩ := List.getElem?_eq_some_iff.1 hp
    exact h i j hi' hj' hij e
theorem once_perm {l m : List Cmd} (h : m.Perm l) (ho : OnceP l l.length) : OnceP m m.length := by
  rw [once_iff] at ho ⊢
  exact (h.map _).nodup_iff.2 ho
theorem okLog_perm {l m : List Cmd} (h : m.Perm l) : okLog m = okLog l := by
  unfold okLog
  rw [h.length_eq]
  congr 1
  rw [Bool.eq_iff_iff, List.all_eq_true, List.all_eq_true]
  exact ⟨fun hm q hq => hm q (h.mem_iff.2 hq), fun hl q hq => hl q (h.mem_iff.1 hq)⟩
/-- The program's test of the result says no more than the reference's. -/
theorem fits_swap {l : List Cmd} {k : Nat} (hk : k + 1 < l.length) (hf : FitsP l l.length) : FitsP (swapL l k) (swapL l k).length ↔ PossP (swapL l k) (swapL l k).length :=
  ⟨fun h => h.2, fun h => ⟨⟨once_perm (swap_perm l k hk) hf.1.1, (okLog_perm (swap_perm l k hk)).trans hf.1.2⟩, h⟩⟩

set_option maxHeartbeats 1000000 in
theorem cloneLog_any (A : Option Addr) (n c : Nat) (l : List Cmd) (w : World) (hn : n ≤ 1100000) (hl : l.length = n) (ha : At encK 5 w A l) :
    Calls Tryd.prog 32 #[.slice A n c] w fun e w' => (∃ v, e = .returned v ∧ w'.ownsRow w.heap.size 44 5 v n (l.flatMap encK)) ∧ Below w.heap.size w w' := by
  obtain ⟨i0, hi, hz0, hz1, hz2⟩ := info_parts infoK
  have ho0 := World.ownsRow_nil w w.heap.size 44 5
  go_enter Tryd.func32, Tryd.ntmps32
  go_wp2_with (at_builtin; refine wpList_append_at _ rfl _ _ 24 rfl w.heap.size 44 i0 (.agg #[.string ByteArray.empty, .int .i64 0, .int .i64 0, .int .i64 0, .int .i64 0]) 5 48 Tryd.underlying24 hi hz0 hz1 hz2 rfl (by decide) (.slice none 0 0) 0 [] rfl ho0 encK_len encK_one A n c l rfl hl ha (by unfold maxLen; omega) (by omega) (by omega) ?_; intro v3 w3 ho3 hg3 hv3)
  go_ret
  refine ⟨⟨v3, rfl, ?_⟩, below_app (Below.refl _ _) hg3 (own_ge ho0)⟩
  simpa using ho3

theorem swap_flat (u v : List Cmd) (a b : Cmd) (k : Nat) (hk : u.length = k) :
    ((((((((((((u ++ a :: b :: v).flatMap encK).set (k * 5) (.string b.p)).set (k * 5 + 1) (.int .i64 b.x)).set (k * 5 + 2) (.int .i64 b.y)).set (k * 5 + 3) (.int .i64 b.z)).set (k * 5 + 4) (.int .i64 b.u)).set ((k + 1) * 5) (.string a.p)).set ((k + 1) * 5 + 1) (.int .i64 a.x)).set ((k + 1) * 5 + 2) (.int .i64 a.y)).set ((k + 1) * 5 + 3) (.int .i64 a.z)).set ((k + 1) * 5 + 4) (.int .i64 a.u)) = (u ++ b :: a :: v).flatMap encK := by
  have hu : (u.flatMap encK).length = k * 5 := by rw [flat_len encK_len, hk]
  have e1 : (u ++ a :: b :: v).flatMap encK = u.flatMap encK ++ .string a.p :: .int .i64 a.x :: .int .i64 a.y :: .int .i64 a.z :: .int .i64 a.u :: (encK b ++ v.flatMap encK) := by simp [List.flatMap_append, encK]
  rw [e1, set5 _ _ _ hu]
  have e2 : u.flatMap encK ++ .string b.p :: .int .i64 b.x :: .int .i64 b.y :: .int .i64 b.z :: .int .i64 b.u :: (encK b ++ v.flatMap encK) = (u.flatMap encK ++ encK b) ++ .string b.p :: .int .i64 b.x :: .int .i64 b.y :: .int .i64 b.z :: .int .i64 b.u :: v.flatMap encK := by simp [encK]
  have hu2 : (u.flatMap encK ++ encK b).length = (k + 1) * 5 := by rw [List.length_append, hu, encK_len]; omega
  rw [e2, set5 _ _ _ hu2]
  simp [List.flatMap_append, encK]

/-- What an exchange answers. -/
def SwapR (l : List Cmd) (k : Int) (m : List Cmd) (b : Bool) : Prop :=
  (b = true ∧ FitsP l l.length ∧ (0 ≤ k ∧ k + 2 ≤ l.length) ∧ m = swapL l k.toNat ∧ PossP (swapL l k.toNat) l.length) ∨
  (b = false ∧ m = [] ∧ ¬ (FitsP l l.length ∧ (0 ≤ k ∧ k + 2 ≤ l.length) ∧ PossP (swapL l k.toNat) l.length))
theorem SwapR.same {l m m' : List Cmd} {k : Int} {b b' : Bool} (h : SwapR l k m b) (h' : SwapR l k m' b') : m = m' ∧ b = b' := by
  rcases h with ⟨rfl, h1, h2, rfl, h3⟩ | ⟨rfl, rfl, h1⟩ <;> rcases h' with ⟨rfl, k1, k2, rfl, k3⟩ | ⟨rfl, rfl, k1⟩
  · exact ⟨rfl, rfl⟩
  · exact absurd ⟨h1, h2, h3⟩ k1
  · exact absurd ⟨k1, k2, k3⟩ h1
  · exact ⟨rfl, rfl⟩
def SwapOf (l : List Cmd) (k : Int) (w : World) (e : Ending) (w' : World) : Prop :=
  ∃ (m : List Cmd) (b : Bool) (A : Option Addr) (c : Nat), e = .returned (.tuple #[.slice A m.length c, .bool b]) ∧ SwapR l k m b ∧ w'.ownsRow w.heap.size 44 5 (.slice A m.length c) m.length (m.flatMap encK) ∧ Below w.heap.size w w'
theorem SwapOf.no {l : List Cmd} {k : Int} {w w' : World} {A : Option Addr} {c : Nat} (h : ¬ (FitsP l l.length ∧ (0 ≤ k ∧ k + 2 ≤ l.length) ∧ PossP (swapL l k.toNat) l.length)) (ho : w'.ownsRow w.heap.size 44 5 (.slice A 0 c) 0 []) (hb : Below w.heap.size w w') :
    SwapOf l k w (.returned (.tuple #[.slice A 0 c, .bool false])) w' := ⟨[], false, A, c, rfl, .inr ⟨rfl, rfl, h⟩, ho, hb⟩
end Go.Proofs.YtmhmfdikncgdgaaDoor
