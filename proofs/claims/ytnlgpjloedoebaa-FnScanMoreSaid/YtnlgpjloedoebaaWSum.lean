/- A changed byte changes a sum: the plain law, and the walk of the law. -/
import Derived.Test.YtnlgpjloedoebaaDraw3
import Derived.Test.YtnlgpjloedoebaaFrames
import Derived.Test.YtnlgpjloedoebaaOpen
namespace Go.Proofs.Ytnlgpjloedoebaa
open Go.RowKit
set_option linter.unusedVariables false
set_option linter.unusedSimpArgs false

theorem u8_bd {l : List Int} (h : ∀ u ∈ l, (Lit.int .u8 u).wf = true) : ∀ z ∈ l, 0 ≤ z ∧ z ≤ 255 := fun z hz => bounds_u8 (h z hz)

def foldS (n : Int) (l : List Int) : Int := l.foldl (fun n b => (31 * n + b) % 251) n
theorem foldS_ne (l : List Int) : ∀ (a b : Int), 0 ≤ a → a < 251 → 0 ≤ b → b < 251 → a ≠ b → foldS a l ≠ foldS b l := by
  induction l with
  | nil => intro a b _ _ _ _ h; exact h
  | cons z l ih =>
    intro a b h1 h2 h3 h4 h
    exact ih ((31 * a + z) % 251) ((31 * b + z) % 251) (by omega) (by omega) (by omega) (by omega) (by omega)
theorem sum_set_ne {l : List Int} {k : Nat} (hk : k < l.length) {v : Int} (hv : v = l[k] - 1 ∨ v = l[k] + 1) : sumL (l.set k v) ≠ sumL l := by
  have e1 : l = l.take k ++ l[k] :: l.drop (k + 1) := by rw [List.getElem_cons_drop, List.take_append_drop]
  have e2 : l.set k v = l.take k ++ v :: l.drop (k + 1) := by rw [List.set_eq_take_append_cons_drop, if_pos hk]
  have hs := sumL_bd (l.take k)
  have key : ∀ x, sumL (l.take k ++ x :: l.drop (k + 1)) = foldS ((31 * sumL (l.take k) + x) % 251) (l.drop (k + 1)) := by
    intro x; unfold sumL foldS; rw [List.foldl_append, List.foldl_cons]
  have h1 := key v
  have h2 := key l[k]
  rw [← e2] at h1
  rw [← e1] at h2
  rw [h1, h2]
  exact foldS_ne _ _ _ (by omega) (by omega) (by omega) (by omega) (by omega)

/-- A body that is drawn for a law: a new row of at most 17 numbers. -/
def IsL (w : World) (e : Ending) (w' : World) : Prop := ∃ (l : List Int) (A : Option Addr) (c : Nat), e = .returned (.slice A l.length c) ∧ w'.ownsRow w.heap.size 3 1 (.slice A l.length c) l.length (l.flatMap encI) ∧ l.length ≤ 17 ∧ (∀ z ∈ l, -1 ≤ z ∧ z ≤ 256) ∧ Below w.heap.size w w'

theorem drawBodySum_any (A : Option Addr) (n c : Nat) (l : List Int) (w : World) (hl : l.length = n) (hnc : n ≤ c) (ha : At encU8 1 w A l) (hby : ∀ z ∈ l, 0 ≤ z ∧ z ≤ 255) (hn : n ≤ 140737488355328) :
    Calls Try.prog 26 #[.slice A n c] w (IsL w) := by
  go_enter Try.func26, Try.ntmps26
  go_wp2_with fail
  refine (l6Open_any A n c l _ hl hnc ha hby hn).mono ?_
  rintro e w1 ⟨g, rfl, hr, hg, hb1⟩
  clear hl
  go_wp2_with fail
  refine (l91Body_any g 0 _ hr (by omega)).mono ?_
  rintro e w2 ⟨l2, A2, c2, rfl, ho2, hn2, hrange, hr2, hg2⟩
  go_wp2_with fail
  go_ret
  exact ⟨l2, A2, c2, rfl, own_mono ho2 hb1.size, hn2, hrange, below_only hb1 hg2 (fun b hb => by injection hb with hb; omega)⟩
theorem drawFrameOf_any (A : Option Addr) (n c : Nat) (l : List Int) (w : World) (hl : l.length = n) (hnc : n ≤ c) (ha : At encU8 1 w A l) (hby : ∀ z ∈ l, 0 ≤ z ∧ z ≤ 255) (hn : n ≤ 140737488355328) :
    Calls Try.prog 31 #[.slice A n c] w (IsL w) := by
  go_enter Try.func31, Try.ntmps31
  go_wp2_with fail
  refine (l6Open_any A n c l _ hl hnc ha hby hn).mono ?_
  rintro e w1 ⟨g, rfl, hr, hg, hb1⟩
  clear hl
  go_wp2_with fail
  refine (l91Body_any g 0 _ hr (by omega)).mono ?_
  rintro e w2 ⟨l2, A2, c2, rfl, ho2, hn2, hrange, hr2, hg2⟩
  go_wp2_with fail
  go_ret
  exact ⟨l2, A2, c2, rfl, own_mono ho2 hb1.size, hn2, hrange, below_only hb1 hg2 (fun b hb => by injection hb with hb; omega)⟩

set_option maxHeartbeats 2000000 in
theorem walk_FnSum (A0 : Option Addr) (n0 c0 : Nat) (l0 : List Int) (hl0 : l0.length = n0) (hnc0 : n0 ≤ c0) (hcm0 : c0 ≤ maxLen) (A1 : Option Addr) (n1 c1 : Nat) (l1 : List Int) (hl1 : l1.length = n1) (hnc1 : n1 ≤ c1) (hcm1 : c1 ≤ maxLen) (w : World)
    (ha0 : At encU 1 w A0 l0) (hw0 : ∀ u ∈ l0, (Lit.int .u8 u).wf = true) (ha1 : At encU 1 w A1 l1) (hw1 : ∀ u ∈ l1, (Lit.int .u8 u).wf = true) :
    Calls Try.prog 7 #[.slice A0 n0 c0, .slice A1 n1 c1] w fun e w' => e = .returned (.bool true) ∧ Below w.heap.size w w' := by
  have H0 := Lib.hid hl0
  clear hl0 hl1
  obtain ⟨i0, hi, hz0, hz1, hz2⟩ := info_parts infoInt
  unfold maxLen at hcm0 hcm1
  by_cases hb0 : 1048576 < n0
  · go_enter Try.func7, Try.ntmps7
    go_wp2
    go_ret
    exact ⟨rfl, Below.refl _ _⟩
  by_cases hb1 : 1048576 < n1
  · go_enter Try.func7, Try.ntmps7
    go_wp2
    go_ret
    exact ⟨rfl, Below.refl _ _⟩
  go_enter Try.func7, Try.ntmps7
  go_wp2_with fail
  refine (drawBodySum_any A0 n0 c0 l0 _ H0.out hnc0 ha0 (u8_bd hw0) (by omega)).mono ?_
  rintro e w1 ⟨l, A, c, rfl, ho, hn, hrange, bw1⟩
  obtain ⟨n, hln⟩ : ∃ n, l.length = n := ⟨_, rfl⟩
  have HL := Lib.hid hln
  rw [hln] at ho hn ⊢
  clear hln
  have at1 := own_at encI_len ho HL.out
  go_wp2_with fail
  refine (implBodySum_any _ _ _ l _ (by omega) HL.out at1).mono ?_
  rintro e w' ⟨rfl, rfl⟩
  go_wp2_with fail
  refine (specBodySum_any _ _ _ l _ (by omega) HL.out at1).mono ?_
  rintro e w' ⟨rfl, rfl⟩
  by_cases hk : bodyB l = true
  · have hs := sumL_bd l
    have hbs : bsum l = sumL l := if_pos hk
    obtain ⟨hlen, hby⟩ := bodyB_iff.1 hk
    rw [HL.out] at hlen
    have HB := Lib.hid hbs
    rw [hbs]
    clear hbs
    have hm : n1 % n < n := Nat.mod_lt _ (by omega)
    have em : ((n1 : Int) % (n : Int)) = ((n1 % n : Nat) : Int) := by rw [Int.natCast_emod]
    have hn00 : ((n : Int) == 0) = false := by simp; omega
    have EM := Lib.hid em
    clear em
    have own0 := World.ownsRow_lit (base := w1.heap.size) (e := 3) (size := 1) w1 #[] 0 (Nat.le_refl _) (by decide) rfl
    have at1' := at1.belowS ((Below.refl w1.heap.size w1).alloc (Nat.le_refl _) (.cells #[] 3))
    go_wp2_with (at_builtin; refine wpList_append_at _ rfl _ _ 32 rfl w1.heap.size 3 i0 (.int .i64 0) 1 8 Try.underlying32 hi hz0 hz1 hz2 rfl (by decide) _ 0 [] rfl own0 encI_len encI_one A n c l rfl HL.out at1' (by unfold maxLen; omega) (by omega) (by simp) ?_; intro v2 w2 ho2 hg2 hv2)
    have ho2' : w2.ownsRow w1.heap.size 3 1 v2 n (l.flatMap encI) := by simpa using ho2
    have hge2 := own_ge' own0
    have bw2 := below_only (below_alloc bw1 _) hg2 (fun b hb => Nat.le_trans bw1.size (hge2 b hb))
    clear ho2 hge2 hg2 hv2
    obtain ⟨A2, c2, rfl, hNc, hcm, hA⟩ := own_form ho2'
    obtain ⟨hA1, hA2, hA3⟩ := hA (by omega)
    have HA := Lib.hid hA1
    clear hA1 hA
    have hj : n1 % n < n := hm
    have ho3 := ho2'
    rw [HA.out] at ho3
    have hlk : n1 % n < l.length := by rw [HL.out]; exact hm
    have hoff : off A2 = 0 := by rw [HA.out]; rfl
    have hidx : ∀ W, (Instr.indexAt 32 (.slice A2 n c2) (.int .i64 ((n1 : Int) % (n : Int)))).run Try.prog W = .ok (.pointer (some ⟨blk A2, n1 % n, none⟩)) W := by
      intro W; rw [EM.out]
      have := run_index_one (c := c2) (n := n) Try.underlying32 hi hz1 (A := A2) (by rw [HA.out]; rfl) hj W
      rwa [hoff, Nat.zero_add] at this
    have cz : w2.cell? ⟨blk A2, n1 % n, none⟩ = some (.int .i64 l[n1 % n]) := by
      rw [ho3.cellAt _ (by omega)]
      have := flat_get encI_len l (n1 % n) 0 hlk (by omega)
      rw [Nat.mul_one, Nat.add_zero] at this
      rw [this]; rfl
    have fz := ho3.frozenAt (n1 % n)
    have hst := fun u => (ho3.stored (n1 % n) u).1
    have hz := hby l[n1 % n] (List.getElem_mem _)
    have HNE := Lib.hid (fun v hv => sum_set_ne hlk (v := v) hv)
    have hset : ∀ v, (l.set (n1 % n) v).length = n := fun v => by rw [List.length_set]; exact HL.out
    have HSET := Lib.hid hset
    have hbv : ∀ v, 0 ≤ v ∧ v ≤ 255 → bodyB (l.set (n1 % n) v) = true := fun v hv => by
      refine bodyB_iff.2 ⟨by rw [hset]; omega, fun z hz => ?_⟩
      rcases List.mem_or_eq_of_mem_set hz with h | h
      · exact hby z h
      · omega
    have HBV := Lib.hid hbv
    clear hoff ho3 hset hbv
    generalize l[n1 % n] = b at cz hz HNE
    clear hlk
    by_cases h255 : b = 255
    · subst h255
      have at3 : At encI 1 (w2.setCell ⟨blk A2, n1 % n, none⟩ (.int .i64 254)) A2 (l.set (n1 % n) 254) := own_at encI_len (by rw [set_flat, HA.out]; exact hst _) (HSET.out _)
      have hv3 : bsum (l.set (n1 % n) 254) = sumL (l.set (n1 % n) 254) := if_pos (HBV.out 254 (by omega))
      have hne := HNE.out 254 (.inl (by omega))
      have hsx : (sumL (l.set (n1 % n) 254) != sumL l) = true := by simpa using hne
      have HV := Lib.hid hv3
      clear hv3 hne hst
      go_simp
      go_wp2_with fail
      refine (implBodySum_any _ _ _ (l.set (n1 % n) 254) _ (by omega) (HSET.out _) at3).mono ?_
      rw [HV.out]
      rintro e w' ⟨rfl, rfl⟩
      go_wp2
      go_ret
      exact ⟨rfl, below_set (p := ⟨blk A2, n1 % n, none⟩) bw2 (Nat.le_trans bw1.size hA2) _⟩
    · have h255' : (b == 255) = false := by simpa using h255
      have at3 : At encI 1 (w2.setCell ⟨blk A2, n1 % n, none⟩ (.int .i64 (b + 1))) A2 (l.set (n1 % n) (b + 1)) := own_at encI_len (by rw [set_flat, HA.out]; exact hst _) (HSET.out _)
      have hv3 : bsum (l.set (n1 % n) (b + 1)) = sumL (l.set (n1 % n) (b + 1)) := if_pos (HBV.out (b + 1) (by omega))
      have hne := HNE.out (b + 1) (.inr rfl)
      have hsx : (sumL (l.set (n1 % n) (b + 1)) != sumL l) = true := by simpa using hne
      have HV := Lib.hid hv3
      clear hv3 hne hst
      go_simp
      go_wp2_with fail
      refine (implBodySum_any _ _ _ (l.set (n1 % n) (b + 1)) _ (by omega) (HSET.out _) at3).mono ?_
      rw [HV.out]
      rintro e w' ⟨rfl, rfl⟩
      go_wp2
      go_ret
      exact ⟨rfl, below_set (p := ⟨blk A2, n1 % n, none⟩) bw2 (Nat.le_trans bw1.size hA2) _⟩
  · have hbs : bsum l = -1 := if_neg hk
    rw [hbs]
    clear hbs hk
    go_wp2
    go_ret
    exact ⟨rfl, bw1⟩
end Go.Proofs.Ytnlgpjloedoebaa
